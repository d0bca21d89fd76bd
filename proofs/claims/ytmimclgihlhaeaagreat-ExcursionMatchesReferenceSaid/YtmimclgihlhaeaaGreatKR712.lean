import Derived.Test.YtmimclgihlhaeaaGreatKR711
import Derived.WideKeyEntry
section
namespace Go.Wx
open Go.RowKit Go.MapKept
open Go.ChangeMaps (setBlock)
def MidM (P : Program) (T : TypeId) (w : World) (b : Nat) (kv : List (Int × Value)) (k : Int) (st : Nat) : Prop :=
 ∃ es1 clock1, w.heap[b]? = some (.map es1 clock1) ∧ ∀ (w2 : World) (val : Value), w2.heap[b]? = some (.map es1 clock1) → ∃ w', (Instr.entryStore T (.map (some b)) (goInt st) val).run P w2 = .ok () w' ∧ IMap w' b (D5 kv k val) ∧ Sto b w2 w' ∧ w'.heap.size = w2.heap.size
theorem MidM.up {P : Program} {T : TypeId} {w w' : World} {b : Nat} {kv : List (Int × Value)} {k : Int} {st : Nat} (h : MidM P T w b kv k st) (u : Up w w') : MidM P T w' b kv k st :=
 let ⟨es1, c1, h1, h2⟩ := h; ⟨es1, c1, (u.block (lt_of_block h1)).trans h1, h2⟩
theorem MidM.Qp {P : Program} {T : TypeId} {w : World} {b : Nat} {kv : List (Int × Value)} {k : Int} {st : Nat} (h : MidM P T w b kv k st) : ∀ ad v, ad.block = b → w.cell? ad ≠ some v := by
 obtain ⟨es, clock, hb, _⟩ := h
 intro ad v e
 unfold World.cell?
 rw [e, hb]
 simp
theorem MidM.Wd {P : Program} {T : TypeId} {w : World} {b : Nat} {kv : List (Int × Value)} {k : Int} {st : Nat} (h : MidM P T w b kv k st) : ∀ (cs : Array Value) (T' : TypeId) (x : Nat × Nat), w.heap[b]? ≠ some (Obj.cells cs T' x) := by
 obtain ⟨es, clock, hb, _⟩ := h
 intro cs T' x e
 rw [hb] at e; cases e
section
variable {P : Program} {n : Nat} {ds : List Deferred} {l : Env} {w : World} {d : Option Tmp} {ty : TypeId} {ps : String} {af : Array Edge} {g : Option (Nat × Bool)}
theorem REv.mapEntry {T K E : TypeId} {m x : Operand} {b : Nat} {k : Int} {z : Value} {kv : List (Int × Value)} (hT : P.underlying T = some (.map K E)) (hK : P.underlying K = some (.int .i64)) (hz : ∀ w, (zeroValue E).run P w = .ok z w) (hm : Val l m (.map (some b))) (hx : Val l x (vi k)) (h : IMap w b kv) :
   REv P n ds l w ⟨d, .mapEntry T m x, ty, ps, af, g⟩ (fun v w' => ∃ v0 st, v = .tuple #[v0, goInt (st : Nat)] ∧ MidM P T w' b kv k st ∧ Sto b w w' ∧ w'.heap.size = w.heap.size) := fun a ha => by
 obtain ⟨es, clock, hb, hs, he⟩ := h
 have hk : IsKey (.int .i64) (vi k) := rfl
 have fin : ∀ (w : World) (o o' : Obj), w.heap[b]? = some o' → Sto b w { w with heap := w.heap.setIfInBounds b o } := fun w o o' hb => ⟨rfl, rfl, rfl, by simp, fun i _ hne => (heap_set hb).2 i hne⟩
 rcases findNow_spec hk es.toList 0 (Fj he) with ⟨h1, h2⟩ | ⟨j, e, h1, h2, h3⟩
 · refine ⟨_, _, A9 (v := .tuple #[z, goInt clock]) (w' := { w with heap := w.heap.setIfInBounds b (.map (es.push { key := vi k, val := z, born := clock }) (clock + 1)) }) ?_, z, clock, rfl, ⟨_, _, (heap_set hb).1, fun w2 val hw2 => ⟨{ w2 with heap := w2.heap.setIfInBounds b (.map (es.push { key := vi k, val := val, born := clock }) (clock + 1)) }, ?_, ⟨_, _, (heap_set hw2).1, stamped_push hs h2, ?_⟩, fin w2 _ _ hw2, by simp⟩⟩, fin w _ _ hb, by simp⟩
   · rw [ha.ev hm, ha.ev hx]
     simp [Instr.mapEntry, run_underlying hT, MapKept.run_getObj_map hb, MapKept.run_checkKey hK hk, MapKept.run_findKey hK h1, hz, MapKept.run_setObj_map _ hb, Result.andThen]
   · have hidx : (es.push ⟨vi k, z, clock⟩).findIdx? (fun e => ((e.born : Nat) : Int) == ((clock : Nat) : Int)) = some es.size := by
       rw [Go.WideElems.findIdx_arr]
       exact Go.WideElems.findIdx_born (l := (es.push ⟨vi k, z, clock⟩).toList) (j := es.size) (e0 := ⟨vi k, z, clock⟩) (stamped_push hs h2).2.1 (by simp)
     have hmod : (es.push ⟨vi k, z, clock⟩).modify es.size (fun e => { e with val := val }) = es.push ⟨vi k, val, clock⟩ := by
       apply Array.ext'
       rw [Array.toList_modify, Array.toList_push, Array.toList_push, ← Array.length_toList, Go.WideElems.modify_last]
     simp [Instr.entryStore, MapKept.run_getObj_map hw2, asInt, asIntOf, goInt, hidx, hmod, MapKept.run_setObj_map _ hw2, Result.andThen]
   have hni : k ∉ kv.map (·.1) := fun hmem => by
     obtain ⟨p, hp, hpk⟩ := List.mem_map.1 hmem
     obtain ⟨x', hx', L0, _⟩ := C5 he hp
     exact h2 x' hx' (by rw [L0, hpk])
   rw [D5, if_neg hni]
   simp [he, Dx, Ha]
 have hj : es[j]? = some e := by simpa using h2
 have hkey : ∀ (val : Value) e', es[j]? = some e' → ({ e' with key := vi k, val := val } : MapEntry).key = e'.key := fun _ e' he' => by rw [hj] at he'; cases he'; exact h3.symm
 have hsame : es.modify j (fun e => { e with key := vi k }) = es := by
   apply Array.ext'
   rw [Array.toList_modify, Go.ChangeMaps.modify_eq_set _ _ _ _ h2]
   have : ({ e with key := vi k } : MapEntry) = e := by rw [← h3]
   rw [this]
   exact Go.WideElems.set_self _ _ _ h2
 refine ⟨_, _, A9 (v := .tuple #[e.val, goInt e.born]) (w' := { w with heap := w.heap.setIfInBounds b (.map es clock) }) ?_, e.val, e.born, rfl, ⟨_, _, (heap_set hb).1, fun w2 val hw2 => ⟨{ w2 with heap := w2.heap.setIfInBounds b (.map (es.modify j fun e => { e with key := vi k, val := val }) clock) }, ?_, ⟨_, _, (heap_set hw2).1, stamped_modify hs _ _ (fun _ _ => rfl) (fun e' _ he' => hkey val e' he'), F5 hs he hj h3⟩, fin w2 _ _ hw2, by simp⟩⟩, fin w _ _ hb, by simp⟩
 · rw [ha.ev hm, ha.ev hx]
   simp [Instr.mapEntry, run_underlying hT, MapKept.run_getObj_map hb, MapKept.run_checkKey hK hk, MapKept.run_findKey hK h1, hj, h3, run_keyThatStays hk, hsame, MapKept.run_setObj_map _ hb, Result.andThen]
 have hidx : es.findIdx? (fun x => ((x.born : Nat) : Int) == ((e.born : Nat) : Int)) = some j := by
   rw [Go.WideElems.findIdx_arr]
   exact Go.WideElems.findIdx_born hs.2.1 h2
 have hmod : es.modify j (fun e => { e with val := val }) = es.modify j (fun e' => { e' with key := vi k, val := val }) := by
   apply Array.ext'
   rw [Array.toList_modify, Array.toList_modify, Go.ChangeMaps.modify_eq_set _ _ _ _ h2, Go.ChangeMaps.modify_eq_set _ _ _ _ h2, ← h3]
 simp [Instr.entryStore, MapKept.run_getObj_map hw2, asInt, asIntOf, goInt, hidx, hmod, MapKept.run_setObj_map _ hw2, Result.andThen]
end
def asks (ops : Array Oper) (i j : Nat) : Bool := match ops[i]? with | some o => o.after.any fun e => Region.binds .any e && Nat.beq e.on j | none => false
theorem G0 {ops : Array Oper} {i j : Nat} (h : asks ops i j = true) {L : Nat → Bool} (hD : DI ops L) (hi : L i = true) : L j = true := by
 unfold asks at h
 split at h
 · rename_i o ho
   obtain ⟨e, he, hh⟩ := Array.any_eq_true.1 h
   simp only [Bool.and_eq_true] at hh
   have := hD i o ho hi _ (Array.getElem_mem he) hh.1
   rwa [Nat.eq_of_beq_eq_true hh.2] at this
 cases h
theorem Rk {ops : Array Oper} {i j : Nat} (h : asks ops i j = true) {o : Oper} (ho : ops[i]? = some o) {L : Nat → Bool} (hed : ∀ e ∈ o.after, Region.binds .any e = true → L e.on = true) : L j = true := by
 unfold asks at h
 rw [ho] at h
 obtain ⟨e, he, hh⟩ := Array.any_eq_true.1 h
 simp only [Bool.and_eq_true] at hh
 have := hed _ (Array.getElem_mem he) hh.1
 rwa [Nat.eq_of_beq_eq_true hh.2] at this
theorem vN {n : Nat} {ds : List Deferred} {w : World} {t : Nat} {v : Value} {a : Go.Act} {env : Env} (ha : Ag n ds env a w) (hv : a.tmps.getD t undef = v) : Ag n ds ((t, .eq v) :: env) a w := ⟨ha.defers, ha.size, fun s q hs => by
 by_cases e : s = t
 · subst e; rw [Ap] at hs; cases hs; exact hv
 rw [Au e] at hs; exact ha.val s q hs⟩
def lI (P : Program) (T : TypeId) (b : Nat) (kv : List (Int × Value)) (k1 k2 : Int) (v1 v2 : Value) (de dx : Nat) (e x s u : Nat) (w0 : World) (L : Nat → Bool) (f : Nat → Value) (W : World) : Prop :=
 Fr (· = b) w0 W ∧ (L e = false → IMap W b kv) ∧ (L e = true → L s = false → ∃ st : Nat, MidM P T W b kv k1 st ∧ (∃ v0, f de = .tuple #[v0, goInt st]) ∧ (L x = true → f dx = goInt st)) ∧
   (L s = true → L u = false → IMap W b (D5 kv k1 v1)) ∧ (L u = true → IMap W b (D5 (D5 kv k1 v1) k2 v2))
section
variable {R : Option Nat} {m : Nat} {P : Program} {n : Nat} {ds : List Deferred} {Q : Exit → Go.Act → World → Prop} {l : Env} {w : World} {ops : Array Oper}
theorem aA {id : Nat} {opsL : List Oper} (k b e x s u r1 r2 de dx m1 a1 c1 m2 a2 c2 : Nat) (Et : List Ph) {T K E : Nat} {z : Value} {kv : List (Int × Value)} {k1 k2 : Int} {v1 v2 : Value} (hT : P.underlying T = some (.map K E)) (hK : P.underlying K = some (.int .i64)) (hz : ∀ w, (zeroValue E).run P w = .ok z w) (hm : P.follows .mixedOrders = true) (hl : Cd l = true)
   (hA : Dz opsL.toArray = true) (hC : (Nat.beq k opsL.toArray.size || Ft opsL.toArray k) = true) (hF : J7 opsL.toArray k = true) (hks : Nat.ble k opsL.toArray.size = true) (hD : Hb n opsL.toArray 0 k = true) (hTl : Gl opsL.toArray k = true) (hfree : Kj l (opsL.take k) = true)
   (hask : (asks opsL.toArray e r1 && (asks opsL.toArray r1 r2 && (asks opsL.toArray x e && (asks opsL.toArray s x && asks opsL.toArray u s)))) = true) (hlt : (Nat.ble (e + 1) k && (Nat.ble (x + 1) k && (Nat.ble (s + 1) k && Nat.ble (u + 1) k))) = true)
   (hoe : ∃ ty ps af, opsL[e]? = some ⟨some de, .mapEntry T (.tmp m1) (.tmp a1), ty, ps, af, none⟩) (hox : ∃ ty ps af, opsL[x]? = some ⟨some dx, .extract (.tmp de) 1, ty, ps, af, none⟩)
   (hos : ∃ ty ps af, opsL[s]? = some ⟨none, .entryStore T (.tmp m1) (.tmp dx) (.tmp c1), ty, ps, af, none⟩) (hou : ∃ ty ps af, opsL[u]? = some ⟨none, .mapUpdate T (.tmp m2) (.tmp a2) (.tmp c2), ty, ps, af, none⟩)
   (hph : allC Et) (hpe : ∀ v W, (Et.getD e (.eq undef)).holds v W) (hpx : ∀ v W, (Et.getD x (.eq undef)).holds v W)
   (hve : ∀ o, opsL[e]? = some o → lk (Lx opsL.toArray (fun i => Et.getD i (.eq undef)) 0 o ++ l) m1 = some (.eq (.map (some b))) ∧ lk (Lx opsL.toArray (fun i => Et.getD i (.eq undef)) 0 o ++ l) a1 = some (.eq (vi k1)))
   (hvs : ∀ o, opsL[s]? = some o → lk (Lx opsL.toArray (fun i => Et.getD i (.eq undef)) 0 o ++ l) m1 = some (.eq (.map (some b))) ∧ lk (Lx opsL.toArray (fun i => Et.getD i (.eq undef)) 0 o ++ l) c1 = some (.eq v1))
   (hvu : ∀ o, opsL[u]? = some o → lk (Lx opsL.toArray (fun i => Et.getD i (.eq undef)) 0 o ++ l) m2 = some (.eq (.map (some b))) ∧ lk (Lx opsL.toArray (fun i => Et.getD i (.eq undef)) 0 o ++ l) a2 = some (.eq (vi k2)) ∧ lk (Lx opsL.toArray (fun i => Et.getD i (.eq undef)) 0 o ++ l) c2 = some (.eq v2))
   (hM : IMap w b kv)
   (hop : ∀ W, Cel w.drew W → allL (fun i o => (i = e ∨ i = x ∨ i = s ∨ i = u) ∨ (o.guard = none ∧ (((i = r1 ∨ i = r2) → IMap W b kv) → TU P n ds (Lx opsL.toArray (fun i => Et.getD i (.eq undef)) 0 o ++ l) W o (Et.getD i (.eq undef))))) 0 (opsL.take k))
   (hend : ∀ W, Fr (· = b) w.drew W → IMap W b (D5 (D5 kv k1 v1) k2 v2) → LW R m P n ds opsL.toArray Q (opsL.drop k) l W) :
   CW R m P n ds (.region id opsL.toArray true) Q l w := by
 simp only [Bool.and_eq_true] at hask hlt
 obtain ⟨ae, ar, ax, as_, au⟩ := hask
 obtain ⟨ke, kx, ks, ku⟩ := hlt
 have ke := Nat.le_of_ble_eq_true ke
 have kx := Nat.le_of_ble_eq_true kx
 have ks := Nat.le_of_ble_eq_true ks
 have ku := Nat.le_of_ble_eq_true ku
 have hks' : k ≤ opsL.length := by have := Nat.le_of_ble_eq_true hks; simp at this; omega
 have sub : ∀ j o, j < k → opsL.toArray[j]? = some o → (opsL.take k)[j]? = some o := fun j o hjk ho => by
   rw [List.getElem?_take_of_lt hjk]; simpa using ho
 have hbd : ∀ i ph, lk l i = some ph → ∀ (j : Nat) (o : Oper), 0 ≤ j → j < k → opsL.toArray[j]? = some o → o.dst ≠ some i := fun i ph hi j o _ hjk ho => Gm hfree hi (List.mem_of_getElem? (sub j o hjk ho))
 obtain ⟨ty1, ps1, af1, hoe⟩ := hoe
 obtain ⟨ty2, ps2, af2, hox⟩ := hox
 obtain ⟨ty3, ps3, af3, hos⟩ := hos
 obtain ⟨ty4, ps4, af4, hou⟩ := hou
 have hde : ∀ i o, i < k → i ≠ e → opsL.toArray[i]? = some o → o.dst ≠ some de := fun i o hik hne ho hd =>
   (Di hD (Nat.zero_le _) hik ho hd).2 e _ (Nat.zero_le _) ke (Ne.symm hne) (by simpa using hoe) rfl
 have hdx : ∀ i o, i < k → i ≠ x → opsL.toArray[i]? = some o → o.dst ≠ some dx := fun i o hik hne ho hd =>
   (Di hD (Nat.zero_le _) hik ho hd).2 x _ (Nat.zero_le _) kx (Ne.symm hne) (by simpa using hox) rfl
 have hne : e ≠ x ∧ e ≠ s ∧ e ≠ u ∧ x ≠ s ∧ x ≠ u ∧ s ≠ u := by
   refine ⟨?_, ?_, ?_, ?_, ?_, ?_⟩ <;> intro h <;> subst h <;> simp_all
 obtain ⟨nex, nes, neu, nxs, nxu, nsu⟩ := hne
 refine Ff hm hl fun fuel listed a hf hu ha => (AWF.gen (k := k) (f0 := fun t => a.tmps.getD t undef) (fun i => Et.getD i (.eq undef)) Cel (lI P T b kv k1 k2 v1 v2 de dx e x s u w.drew) Cel.refl (fun _ _ _ => Cel.trans) (fun i v w w' h u => (hph.at i) v w w' h u) hA hC hF hks (by simp) hD hl hbd ?_ ?_ ?_ fuel listed a hf hu ha (fun _ => rfl))
 · intro i o _ hik hio L f W hRel hDn hLi hed ⟨hFr, I1, I2, I3, I4⟩
   have hup : L e = false → L s = false := fun h => by
     cases hs : L s with
     | false => rfl
     | true => rw [G0 ax hDn (G0 as_ hDn hs)] at h; cases h
   have hsu : L s = false → L u = false := fun h => by
     cases hs : L u with
     | false => rfl
     | true => rw [G0 au hDn hs] at h; cases h
   have hxs : L x = false → L s = false := fun h => by
     cases hs : L s with
     | false => rfl
     | true => rw [G0 as_ hDn hs] at h; cases h
   have hex : L e = false → L x = false := fun h => by
     cases hs : L x with
     | false => rfl
     | true => rw [G0 ax hDn hs] at h; cases h
   by_cases e1 : i = e
   · subst e1
     have hio' : opsL[i]? = some o := by simpa using hio
     rw [hoe] at hio'; cases hio'
     intro a ha hsl
     rw [if_pos (by simp [Region.wanted])]
     obtain ⟨q1, q2⟩ := hve _ hoe
     have hM := I1 hLi
     obtain ⟨v, W', hr, v0, st, rfl, hMid, hsto, hzz⟩ := REv.mapEntry (P := P) (n := n) (ds := ds) (w := W) (d := some de) (ty := ty1) (ps := ps1) (af := af1) (g := none) hT hK hz (.tmp q1) (.tmp q2) hM a ha
     refine .inl (.inl ⟨_, W', hr, hsto.Fu oQ hM.Qp hM.Wd, fun _ _ => hpe _ _, hFr.trans (hsto.fr.mono fun _ h => h), fun h => ?_, fun _ _ => ⟨st, hMid, ⟨v0, by simp [E9]⟩, fun h => ?_⟩, fun h => ?_, fun h => ?_⟩)
     · simp [Cp] at h
     · rw [Cp, if_neg (Ne.symm nex), hex hLi] at h; cases h
     · rw [Cp, if_neg (Ne.symm nes), hup hLi] at h; cases h
     rw [Cp, if_neg (Ne.symm neu), hsu (hup hLi)] at h; cases h
   by_cases e2 : i = x
   · subst e2
     have hio' : opsL[i]? = some o := by simpa using hio
     rw [hox] at hio'; cases hio'
     intro a ha hsl
     rw [if_pos (by simp [Region.wanted])]
     have hLe : L e = true := Rk ax hio hed
     obtain ⟨st, hMid, ⟨v0, hv0⟩, _⟩ := I2 hLe (hxs hLi)
     have hag : Ag n ds [(de, .eq (.tuple #[v0, goInt st]))] a W := ⟨ha.defers, ha.size, fun t q ht => by
       by_cases ee : t = de
       · subst ee; rw [Ap] at ht; cases ht; exact (hsl _).trans hv0
       rw [Au ee] at ht; cases ht⟩
     have hr := PEv.extract (P := P) (n := n) (ds := ds) (w := W) (d := some dx) (ty := ty2) (ps := ps2) (af := af2) (g := none) (i := 1) (v := goInt st) (.tmp (Ap (ph := .eq (.tuple #[v0, goInt st])))) rfl a W hag (Up.refl W)
     refine .inl (.inl ⟨_, W, hr, Cel.refl W, fun _ _ => hpx _ _, hFr, fun h => ?_, fun _ _ => ⟨st, hMid, ⟨v0, ?_⟩, fun _ => by simp [E9]⟩, fun h => ?_, fun h => ?_⟩)
     · rw [Cp, if_neg nex, hLe] at h; cases h
     · have : dx ≠ de := fun ee => hde i _ hik (Ne.symm nex) hio (by rw [ee])
       simp [E9, this, hv0]
     · rw [Cp, if_neg (Ne.symm nxs), hxs hLi] at h; cases h
     rw [Cp, if_neg (Ne.symm nxu), hsu (hxs hLi)] at h; cases h
   by_cases e3 : i = s
   · subst e3
     have hio' : opsL[i]? = some o := by simpa using hio
     rw [hos] at hio'; cases hio'
     intro a ha hsl
     rw [if_pos (by simp [Region.wanted])]
     have hLx : L x = true := Rk as_ hio hed
     have hLe : L e = true := G0 ax hDn hLx
     obtain ⟨st, hMid, _, hfx⟩ := I2 hLe hLi
     obtain ⟨q1, q2⟩ := hvs _ hos
     have v1' : ∀ (t : Nat) (v : Value), lk (Lx opsL.toArray (fun i => Et.getD i (.eq undef)) 0 ⟨none, .entryStore T (.tmp m1) (.tmp dx) (.tmp c1), ty3, ps3, af3, none⟩ ++ l) t = some (.eq v) → a.tmps.getD t undef = v := fun t v h => ha.val t _ h
     have hag2 : ∀ (t : Nat) (v : Value), a.tmps.getD t undef = v → Ag n ds [(t, .eq v)] a W := fun t v hv => ⟨ha.defers, ha.size, fun t' q ht => by
       by_cases ee : t' = t
       · subst ee; rw [Ap] at ht; cases ht; exact hv
       rw [Au ee] at ht; cases ht⟩
     obtain ⟨W', h3, hM', hsto, hzz⟩ : ∃ w', (execOp a.eval ⟨none, .entryStore T (.tmp m1) (.tmp dx) (.tmp c1), ty3, ps3, af3, none⟩).run P W = .ok .skip w' ∧ IMap w' b (D5 kv k1 v1) ∧ Sto b W w' ∧ w'.heap.size = W.heap.size := by
       obtain ⟨es1, cc1, h1, h2⟩ := hMid
       obtain ⟨w', h3, h4⟩ := h2 W v1 h1
       refine ⟨w', Kc ?_, h4⟩
       rw [(hag2 m1 _ (v1' m1 _ q1)).ev (.tmp Ap), (hag2 dx _ ((hsl dx).trans (hfx hLx))).ev (.tmp Ap), (hag2 c1 _ (v1' c1 _ q2)).ev (.tmp Ap)]
       exact h3
     refine .inr ⟨W', h3, hsto.Fu oQ hMid.Qp hMid.Wd, (fun d hd => by cases hd), hFr.trans (hsto.fr.mono fun _ h => h), fun h => ?_, fun _ h => ?_, fun _ _ => hM', fun h => ?_⟩
     · rw [Cp, if_neg nes, hLe] at h; cases h
     · simp [Cp] at h
     rw [Cp, if_neg (Ne.symm nsu), hsu hLi] at h; cases h
   by_cases e4 : i = u
   · subst e4
     have hio' : opsL[i]? = some o := by simpa using hio
     rw [hou] at hio'; cases hio'
     intro a ha hsl
     rw [if_pos (by simp [Region.wanted])]
     have hLs : L s = true := Rk au hio hed
     have hLe : L e = true := G0 ax hDn (G0 as_ hDn hLs)
     have hM := I3 hLs hLi
     obtain ⟨q1, q2, q3⟩ := hvu _ hou
     obtain ⟨W', hr, hM', hsto, hzz⟩ := SEv.mapUpdate (P := P) (n := n) (ds := ds) (w := W) (ty := ty4) (ps := ps4) (af := af4) (g := none) hT hK (.tmp q1) (.tmp q2) (.tmp q3) hM a ha
     refine .inr ⟨W', hr, hsto.Fu oQ hM.Qp hM.Wd, (fun d hd => by cases hd), hFr.trans (hsto.fr.mono fun _ h => h), fun h => ?_, fun _ h => ?_, fun _ h => ?_, fun _ => hM'⟩
     · rw [Cp, if_neg neu, hLe] at h; cases h
     · rw [Cp, if_neg nsu, hLs] at h; cases h
     simp [Cp] at h
   have h0 := (hop W hRel).at (sub i o hik hio)
   rw [Nat.zero_add] at h0
   rcases h0 with h0 | ⟨hg, h0⟩
   · rcases h0 with h0 | h0 | h0 | h0
     · exact absurd h0 e1
     · exact absurd h0 e2
     · exact absurd h0 e3
     exact absurd h0 e4
   have hrd : (i = r1 ∨ i = r2) → IMap W b kv := fun h => I1 (by
     cases hLe : L e with
     | false => rfl
     | true =>
       have h1 := G0 ae hDn hLe
       have h2 := G0 ar hDn h1
       rcases h with h | h
       · rw [h, h1] at hLi; cases hLi
       rw [h, h2] at hLi; cases hLi)
   intro a ha hsl
   rw [if_pos (by simp [Region.wanted, hg])]
   have done : ∀ v W', Up W W' ∧ (Et.getD i (.eq undef)).holds v W' → Cel W W' ∧ (∀ d, o.dst = some d → (Et.getD i (.eq undef)).holds v W') ∧ lI P T b kv k1 k2 v1 v2 de dx e x s u w.drew (Cp L i) (E9 f o.dst v) W' := by
     rintro v W' ⟨hu, hv⟩
     have f1 : E9 f o.dst v de = f de := by simp [E9, hde i o hik e1 hio]
     have f2 : E9 f o.dst v dx = f dx := by simp [E9, hdx i o hik e2 hio]
     have le : Cp L i e = L e := by simp [Cp, Ne.symm e1]
     have lx : Cp L i x = L x := by simp [Cp, Ne.symm e2]
     have ls : Cp L i s = L s := by simp [Cp, Ne.symm e3]
     have lu : Cp L i u = L u := by simp [Cp, Ne.symm e4]
     unfold lI
     rw [le, lx, ls, lu, f1, f2]
     exact ⟨hu.Fu, fun _ _ => hv, hFr.trans (hu.fr _), fun h => (I1 h).up hu, fun h h2 => let ⟨st, h3, h4⟩ := I2 h h2; ⟨st, h3.up hu, h4⟩, fun h h2 => (I3 h h2).up hu, fun h => (I4 h).up hu⟩
   rcases h0 hrd a ha with ⟨v, W', hr, hp⟩ | ⟨fn, args, w1, hr, hc⟩
   · exact .inl (.inl ⟨v, W', hr, done v W' hp⟩)
   exact .inl (.inr ⟨fn, args, w1, hr, hc.mono done⟩)
 · exact ⟨Fr.refl _ _, fun _ => hM.up (Up.drew w), fun h => by simp at h, fun h => by simp at h, fun h => by simp at h⟩
 intro f W hRel ⟨hFr, _, _, _, I4⟩ fuel' listed' a' hf' hu' ha' hsl'
 refine Fe hTl hA (opsL.toArray.size - k) k fuel' listed' a' W rfl (by simp; omega) (Nat.le_refl _) hf' hu' (hend W hFr (I4 (decide_eq_true ku)) a' ⟨ha'.defers, ha'.size, fun t q ht => ha'.val t q ?_⟩)
 rw [G3]
 · exact ht
 cases hq : lk (H6 opsL.toArray (fun i => Et.getD i (.eq undef)) 0 k) t with
 | none => rfl
 | some q' =>
   obtain ⟨j, p, _, hjk, hp, hpd, _⟩ := Fk hq
   exact absurd hpd (hbd t q ht j p (Nat.zero_le _) hjk hp)
end
end Go.Wx
end
section
namespace Go.Wx
theorem Mr {c n : Int} (hc : K7 c) (hn : 0 < n) : 0 ≤ Bn c n ∧ Bn c n < n := by
 unfold Bn
 obtain ⟨h1, h2⟩ := hc
 split
 · rw [Dt (i := c + 1) oQ oQ, Dt oQ oQ, Int.tmod_eq_emod_of_nonneg (by omega)]; exact ⟨Int.emod_nonneg _ oQ, Int.emod_lt_of_pos _ hn⟩
 rw [Int.tmod_eq_emod_of_nonneg (by omega)]; exact ⟨Int.emod_nonneg _ oQ, Int.emod_lt_of_pos _ hn⟩
theorem OwnS.els {α : Type} {enc : α → Array Go.Value} {b k n cp : Nat} {e : TypeId} {w : World} {ad : Option Addr} {xs : List α} (h : OwnS w b e k enc (.slice ad n cp) xs) (hk : ∀ x, (enc x).size = k) : Els w ad k enc xs := by
 obtain ⟨ad', cp', e, hE⟩ := h.sl hk
 injection e with e1
 rw [e1]; exact hE
theorem gN {f : Fact} (h : A6 f = true) : f.Day ≤ 100000 := by
 have := Lf h
 simp only [preB, Bool.or_eq_false_iff, decide_eq_false_iff_not] at this
 omega
theorem uL (l : List Fact) (d : Int) : F8 (l.filter fun f => decide (f.Day ≤ d)) 100000 = F8 l d := by
 have key : ∀ (l : List Fact) (a : E3), (l.filter fun f => decide (f.Day ≤ d)).foldl (Ct 100000) a = l.foldl (Ct d) a := by
   intro l
   induction l with
   | nil => exact fun _ => rfl
   | cons x l ih =>
     intro a
     by_cases hx : x.Day ≤ d
     · rw [List.filter_cons, if_pos (decide_eq_true hx), List.foldl_cons, List.foldl_cons, ih]
       congr 1
       by_cases hk : Bj x = []
       · rw [Hz (.inl hk), Hz (.inl hk)]
       have hv := gN (Jz hk)
       unfold Ct
       rw [if_neg (fun h => h.elim hk oQ), if_neg (fun h => h.elim hk oQ)]
     rw [List.filter_cons, if_neg (by rw [decide_eq_false hx]; exact Bool.false_ne_true), ih, List.foldl_cons, Hz (.inr oQ)]
 exact key l []
end Go.Wx
namespace Go.Proofs.YtmimclgihlhaeaaGreat
open Go.Proofs.Tryz
open Go.Wx Go.RowKit
end Go.Proofs.YtmimclgihlhaeaaGreat
namespace Go.Wx
theorem lJ {f g : Fact} (hf : A6 f = true) (hg : A6 g = true) (h : Bj f = Bj g) : f.Kind = g.Kind := by
 have kf := Ep hf
 have kg := Ep hg
 unfold Bj Sv at h
 rw [if_pos hf, if_pos hg] at h
 exact (Qw (r := Ca (Ea (Em f.Kind) f)) (s := Ca (Ea (Em g.Kind) g)) (a := f.Kind) (b := g.Kind) ⟨by omega, by omega⟩ ⟨by omega, by omega⟩ h).1
end Go.Wx
namespace Go.Proofs.YtmimclgihlhaeaaGreat
open Go.Proofs.Tryz
open Go.Wx Go.RowKit
end Go.Proofs.YtmimclgihlhaeaaGreat
namespace Go.Wx
theorem U4 : ∀ (a b : List UInt8), Go.Lib.compareBytes b a = - Go.Lib.compareBytes a b
 | [], [] => rfl
 | [], _ :: _ => rfl
 | _ :: _, [] => rfl
 | x :: a, y :: b => by
   unfold Go.Lib.compareBytes
   by_cases h1 : x < y
   · have h2 : ¬ y < x := by rw [UInt8.lt_iff_toNat_lt] at *; omega
     rw [if_pos h1, if_neg h2, if_pos h1]; rfl
   by_cases h2 : y < x
   · rw [if_pos h2, if_neg h1, if_pos h2]
   rw [if_neg h2, if_neg h1, if_neg h1, if_neg h2]; exact U4 a b
theorem dD : ∀ {a b : List UInt8}, Go.Lib.compareBytes a b = 0 → a = b
 | [], [], _ => rfl
 | [], _ :: _, h => by simp [Go.Lib.compareBytes] at h
 | _ :: _, [], h => by simp [Go.Lib.compareBytes] at h
 | x :: a, y :: b, h => by
   unfold Go.Lib.compareBytes at h
   by_cases h1 : x < y
   · rw [if_pos h1] at h; cases h
   by_cases h2 : y < x
   · rw [if_neg h1, if_pos h2] at h; cases h
   rw [if_neg h1, if_neg h2] at h
   rw [dD h, show x = y from UInt8.toNat_inj.1 (by rw [UInt8.lt_iff_toNat_lt] at h1 h2; omega)]
theorem qR (a : List UInt8) : Go.Lib.compareBytes a a = 0 := by have := U4 a a; omega
theorem Xn : ∀ {a b c : List UInt8}, 0 < Go.Lib.compareBytes a b → 0 < Go.Lib.compareBytes b c → 0 < Go.Lib.compareBytes a c
 | [], [], _, h, _ => by simp [Go.Lib.compareBytes] at h
 | [], _ :: _, _, h, _ => by simp [Go.Lib.compareBytes] at h
 | _ :: _, [], [], _, h => by simp [Go.Lib.compareBytes] at h
 | _ :: _, [], _ :: _, _, h => by simp [Go.Lib.compareBytes] at h
 | _ :: _, _ :: _, [], _, _ => by simp [Go.Lib.compareBytes]
 | x :: a, y :: b, z :: c, h, k => by
   unfold Go.Lib.compareBytes at h k ⊢
   by_cases h1 : x < y
   · rw [if_pos h1] at h; omega
   by_cases k1 : y < z
   · rw [if_pos k1] at k; omega
   rw [if_neg h1] at h
   rw [if_neg k1] at k
   have e1 : ¬ x < z := by rw [UInt8.lt_iff_toNat_lt] at *; omega
   rw [if_neg e1]
   by_cases h2 : y < x
   · rw [if_pos (show z < x by rw [UInt8.lt_iff_toNat_lt] at *; omega)]; decide
   by_cases k2 : z < y
   · rw [if_pos (show z < x by rw [UInt8.lt_iff_toNat_lt] at *; omega)]; decide
   rw [if_neg h2] at h
   rw [if_neg k2] at k
   rw [if_neg (show ¬ z < x by rw [UInt8.lt_iff_toNat_lt] at *; omega)]
   exact Xn h k
theorem Ib {a b : Fact} : Ex a b = true ↔ A6 a = true ∧ A6 b = true ∧ Bj a = Bj b ∧ (b.Version < a.Version ∨ (a.Version = b.Version ∧ 0 < Go.Lib.compareBytes (Ho a) (Ho b))) := by
 unfold Ex
 simp only [Bool.and_eq_true, Bool.or_eq_true, decide_eq_true_eq, beq_iff_eq, and_assoc]
theorem Xo (a : Fact) : Ex a a = false := by
 rw [Bool.eq_false_iff]
 intro h
 have := (Ib.1 h).2.2.2
 rw [qR] at this
 omega
theorem aB {a b c : Fact} (h : Ex a b = true) (k : Ex b c = true) : Ex a c = true := by
 obtain ⟨h1, h2, h3, h4⟩ := Ib.1 h
 obtain ⟨k1, k2, k3, k4⟩ := Ib.1 k
 refine Ib.2 ⟨h1, k2, h3.trans k3, ?_⟩
 rcases h4 with h4 | ⟨h4, h5⟩ <;> rcases k4 with k4 | ⟨k4, k5⟩
 · exact .inl oQ
 · exact .inl oQ
 · exact .inl oQ
 exact .inr ⟨by omega, Xn h5 k5⟩
theorem U5 {f : Fact} {o o' : Nat} {n : Int} (h : Ew o = true) (h' : Ew o' = true) : Gb (fI f o n) o' = if o = o' then n else Gb f o' := by
 rcases Dv h with rfl | rfl | rfl | rfl | rfl | rfl | rfl | rfl | rfl | rfl | rfl | rfl | rfl | rfl <;> rcases Dv h' with rfl | rfl | rfl | rfl | rfl | rfl | rfl | rfl | rfl | rfl | rfl | rfl | rfl | rfl <;> rfl
theorem lK {f : Fact} {o : Nat} {n : Int} (h : Ew o = true) : (fI f o n).Text = f.Text := by
 rcases Dv h with rfl | rfl | rfl | rfl | rfl | rfl | rfl | rfl | rfl | rfl | rfl | rfl | rfl | rfl <;> rfl
theorem Xp : ∀ {fs : List Fld} {f g : Fact}, (∀ x ∈ fs, Ew x.off = true ∧ Oh x.lo ∧ Oh x.hi) → Ih fs f = some g → (∀ o, Ew o = true → Gb g o ≠ 0 → Gb f o = Gb g o) ∧ (∀ o, Ew o = true → (∀ x ∈ fs, x.off ≠ o) → Gb f o = Gb g o) ∧ g.Text = f.Text ∧ ∀ x ∈ fs, Oh (Gb f x.off)
 | [], f, g, _, h => by cases h; exact ⟨fun _ _ _ => rfl, fun _ _ _ => rfl, rfl, fun x hx => by cases hx⟩
 | x :: fs, f, g, hf, h => by
   unfold Ih at h
   split at h
   · cases h
   rename_i hx
   have ok := hf x List.mem_cons_self
   obtain ⟨h1, h2, h3, h4⟩ := Xp (fun y hy => hf y (List.mem_cons_of_mem _ hy)) h
   refine ⟨fun o ho hne => ?_, fun o ho hn => ?_, h3.trans (lK ok.1), fun y hy => ?_⟩
   · have := h1 o ho hne
     rw [U5 ok.1 ho] at this
     by_cases e : x.off = o
     · rw [if_pos e] at this; exact absurd this.symm hne
     rwa [if_neg e] at this
   · have := h2 o ho (fun y hy => hn y (List.mem_cons_of_mem _ hy))
     rwa [U5 ok.1 ho, if_neg (hn x List.mem_cons_self)] at this
   have hb : Oh (Gb f x.off) := by
     have := ok.2.1.1
     have := ok.2.2.2
     exact ⟨by omega, by omega⟩
   rcases List.mem_cons.1 hy with rfl | hy
   · exact hb
   have := h4 y hy
   rw [U5 ok.1 (hf y (List.mem_cons_of_mem _ hy)).1] at this
   by_cases e : x.off = y.off
   · rw [← e]; exact hb
   rwa [if_neg e] at this
theorem aD (k : Int) : ∀ x ∈ fieldsOf k, Ew x.off = true ∧ Oh x.lo ∧ Oh x.hi := by
 intro x hx
 have h : ∀ l ∈ Ma, ∀ y ∈ l, (Ew y.off && decide (-4611686018427387903 ≤ y.lo) && decide (y.lo ≤ 4611686018427387903) && decide (-4611686018427387903 ≤ y.hi) && decide (y.hi ≤ 4611686018427387903)) = true := by decide
 unfold fieldsOf at hx
 rw [List.getD_eq_getElem?_getD] at hx
 cases hl : Ma[k.toNat]? with
 | none => rw [hl] at hx; simp at hx
 | some l =>
   rw [hl] at hx
   have := h l (List.mem_of_getElem? hl) x (by simpa using hx)
   simp only [Bool.and_eq_true, decide_eq_true_eq] at this
   exact ⟨this.1.1.1.1, ⟨this.1.1.1.2, this.1.1.2⟩, ⟨this.1.2, this.2⟩⟩
theorem qS {f g : Fact} (h : H4 f g = true) : (∀ o, Ew o = true → Gb f o = Gb g o) ∧ f.Text.toList = g.Text.toList := by
 simp only [H4, Bool.and_eq_true, beq_iff_eq] at h
 obtain ⟨_, h1, _, _, _, h5, h6, h7, h8, h9, h10, h11, h12, h13, h14, h15, h16, h17, h18⟩ := h
 refine ⟨fun o ho => ?_, h18⟩
 rcases Dv ho with rfl | rfl | rfl | rfl | rfl | rfl | rfl | rfl | rfl | rfl | rfl | rfl | rfl | rfl
 · exact h1
 · exact h5
 · exact h6
 · exact h7
 · exact h8
 · exact h9
 · exact h10
 · exact h11
 · exact h12
 · exact h13
 · exact h14
 · exact h15
 · exact h16
 exact h17
theorem gO (k v d : Int) (g : Bool) {o : Nat} (h : Ew o = true) : Gb (Ta k v d g) o = 0 := by
 rcases Dv h with rfl | rfl | rfl | rfl | rfl | rfl | rfl | rfl | rfl | rfl | rfl | rfl | rfl | rfl <;> rfl
theorem lL (g : Fact) (t : ByteArray) {o : Nat} (h : Ew o = true) : Gb { g with Text := t } o = Gb g o := by
 rcases Dv h with rfl | rfl | rfl | rfl | rfl | rfl | rfl | rfl | rfl | rfl | rfl | rfl | rfl | rfl <;> rfl
theorem Pj {f : Fact} (h : A6 f = true) : (∀ o, Ew o = true → (∀ x ∈ fieldsOf f.Kind, x.off ≠ o) → Gb f o = 0) ∧ (∀ x ∈ fieldsOf f.Kind, Oh (Gb f x.off)) ∧ (F6 f.Kind = false → f.Text.toList = []) := by
 unfold A6 at h
 rw [Bool.and_eq_true, Bool.and_eq_true] at h
 have h3 := h.2.2
 cases hr : Ih (fieldsOf f.Kind) f with
 | none => rw [hr] at h3; cases h3
 | some g =>
   rw [hr] at h3
   obtain ⟨r1, r2, r3, r4⟩ := Xp (aD f.Kind) hr
   obtain ⟨e1, e2⟩ := qS h3
   have z : ∀ o, Ew o = true → Gb g o = 0 := fun o ho => by
     have := e1 o ho
     rw [gO _ _ _ _ ho] at this
     split at this
     · rwa [lL _ _ ho] at this
     exact this
   refine ⟨fun o ho hn => (r2 o ho hn).trans (z o ho), r4, fun ht => ?_⟩
   rw [ht] at e2
   rw [← r3]
   rw [if_neg Bool.false_ne_true] at e2
   rw [e2, ByteArray.toList_eq]; rfl
theorem lM {a b : ByteArray} (h : a.toList = b.toList) : a = b := by
 rw [ByteArray.toList_eq, ByteArray.toList_eq] at h
 cases a; cases b
 exact congrArg ByteArray.mk (Array.toList_inj.1 h)
theorem lN {a b : Fact} (hk : a.Kind = b.Kind) (hv : a.Version = b.Version) (hd : a.Day = b.Day) (hg : a.Gone = b.Gone) (ht : a.Text = b.Text) (h : ∀ o, Ew o = true → Gb a o = Gb b o) : a = b := by
 have h1 := h 1 rfl
 have h5 := h 5 rfl
 have h6 := h 6 rfl
 have h7 := h 7 rfl
 have h8 := h 8 rfl
 have h9 := h 9 rfl
 have h10 := h 10 rfl
 have h11 := h 11 rfl
 have h12 := h 12 rfl
 have h13 := h 13 rfl
 have h14 := h 14 rfl
 have h15 := h 15 rfl
 have h16 := h 16 rfl
 have h17 := h 17 rfl
 cases a; cases b
 rw [Fact.mk.injEq]
 exact ⟨hk, h1, hv, hd, hg, h5, h6, h7, h8, h9, h10, h11, h12, h13, h14, h15, h16, h17, ht⟩
theorem lO {a b : Fact} (ha : A6 a = true) (hb : A6 b = true) (hk : a.Kind = b.Kind) (h : Ho a = Ho b) : a = b := by
 obtain ⟨a1, a2, a3⟩ := Pj ha
 obtain ⟨b1, b2, b3⟩ := Pj hb
 have pa := Lf ha
 have pb := Lf hb
 have ka := Ep ha
 have kb := Ep hb
 simp only [preB, Bool.or_eq_false_iff, decide_eq_false_iff_not] at pa pb
 have win : ∀ (f : Fact), (1 ≤ f.Kind ∧ f.Kind ≤ 11) → (¬ f.Version < 1 ∧ ¬ 1000000 < f.Version ∧ ¬ f.Day < 0 ∧ ¬ 100000 < f.Day) → (∀ x ∈ fieldsOf f.Kind, Oh (Gb f x.off)) → ∀ x ∈ Oj f, Oh x := fun f k p q x hx => by
   unfold Oj at hx
   rcases List.mem_append.1 hx with hx | hx
   · simp only [List.mem_cons, List.not_mem_nil, or_false] at hx
     rcases hx with rfl | rfl | rfl | rfl
     · exact ⟨by omega, by omega⟩
     · exact ⟨by omega, by omega⟩
     · exact ⟨by omega, by omega⟩
     unfold Ja; split <;> exact ⟨by omega, by omega⟩
   obtain ⟨y, hy, rfl⟩ := List.mem_map.1 hx
   exact q y hy
 unfold Ho at h
 obtain ⟨e1, e2⟩ := Tf (win a ka ⟨pa.1.1.1.1, pa.1.1.1.2, pa.1.1.2, pa.1.2⟩ a2) (win b kb ⟨pb.1.1.1.1, pb.1.1.1.2, pb.1.1.2, pb.1.2⟩ b2) (by unfold Oj; simp [Ea, hk]) h
 unfold Oj at e1
 simp only [List.cons_append, List.nil_append, List.cons.injEq] at e1
 obtain ⟨_, e3, e4, e5, e6⟩ := e1
 refine lN hk e3 e4 ?_ ?_ fun o ho => ?_
 · revert e5
   unfold Ja
   cases a.Gone <;> cases b.Gone <;> simp
 · by_cases ht : F6 a.Kind = true
   · rw [if_pos ht, if_pos (by rw [← hk]; exact ht)] at e2
     unfold Zp at e2
     have := (Qw (cL (by simp; omega)) (cL (by simp; omega)) e2).2
     cases ea : a.Text; cases eb : b.Text
     rw [ea, eb] at this
     exact congrArg ByteArray.mk (Array.toList_inj.1 this)
   have ht := Bool.eq_false_iff.2 ht
   exact lM ((a3 ht).trans (b3 (hk ▸ ht)).symm)
 by_cases hx : ∃ x ∈ fieldsOf a.Kind, x.off = o
 · obtain ⟨x, hx, rfl⟩ := hx
   unfold Ea at e6
   rw [← hk] at e6
   exact List.map_inj_left.1 e6 x hx
 have hn : ∀ x ∈ fieldsOf a.Kind, x.off ≠ o := fun x h1 h2 => hx ⟨x, h1, h2⟩
 rw [a1 o ho hn, b1 o ho (hk ▸ hn)]
theorem Rl {a b : Fact} (ha : A6 a = true) (hb : A6 b = true) (hk : Bj a = Bj b) (h1 : Ex a b = false) (h2 : Ex b a = false) : a = b := by
 rw [Bool.eq_false_iff] at h1 h2
 have c1 : ¬ (b.Version < a.Version ∨ (a.Version = b.Version ∧ 0 < Go.Lib.compareBytes (Ho a) (Ho b))) := fun c => h1 (Ib.2 ⟨ha, hb, hk, c⟩)
 have c2 : ¬ (a.Version < b.Version ∨ (b.Version = a.Version ∧ 0 < Go.Lib.compareBytes (Ho b) (Ho a))) := fun c => h2 (Ib.2 ⟨hb, ha, hk.symm, c⟩)
 rw [U4 (Ho a) (Ho b)] at c2
 exact lO ha hb (lJ ha hb hk) (dD oQ)
def vO (l : List Fact) (d : Int) (f : Fact) : Prop := f ∈ l ∧ Bj f ≠ [] ∧ f.Day ≤ d ∧ ∀ g ∈ l, g.Day ≤ d → Ex g f = false
structure EInv (l : List Fact) (d : Int) (m : E3) : Prop where
 ok : MOk m
 top : ∀ p ∈ m, vO l d p.2
 all : ∀ f ∈ l, Bj f ≠ [] → f.Day ≤ d → Bj f ∈ m.map (·.1)
theorem Lk {a b : Fact} (h : Ex a b = true) : Bj a = Bj b := (Ib.1 h).2.2.1
theorem lP {m : E3} {c : List UInt8} {x : Fact} {p : List UInt8 × Fact} (h : p ∈ Kt m c x) : p = (c, x) ∨ (p ∈ m ∧ p.1 ≠ c) := by
 unfold Kt at h
 split at h
 · obtain ⟨q, hq, e⟩ := List.mem_map.1 h
   split at e
   · exact .inl e.symm
   rename_i hc; subst e; exact .inr ⟨hq, hc⟩
 rename_i hn
 rcases List.mem_append.1 h with h | h
 · exact .inr ⟨h, fun e => hn (List.mem_map.2 ⟨p, h, e⟩)⟩
 exact .inl (List.mem_singleton.1 h)
theorem lQ {m : E3} {c : List UInt8} {x : Fact} {k : List UInt8} (h : k ∈ m.map (·.1) ∨ k = c) : k ∈ (Kt m c x).map (·.1) := by
 rw [Tr]
 split
 · rename_i hc; rcases h with h | rfl
   · exact h
   exact hc
 rcases h with h | rfl
 · exact List.mem_append_left _ h
 simp
theorem Rm {l : List Fact} {d : Int} {x f : Fact} (h : vO l d f) (hx : x.Day ≤ d → Ex x f = false) : vO (l ++ [x]) d f := by
 refine ⟨List.mem_append_left _ h.1, h.2.1, h.2.2.1, fun g hg hd => ?_⟩
 rcases List.mem_append.1 hg with hg | hg
 · exact h.2.2.2 g hg hd
 cases List.mem_singleton.1 hg; exact hx hd
theorem EInv.step {l : List Fact} {d : Int} {m : E3} (h : EInv l d m) (x : Fact) : EInv (l ++ [x]) d (Ct d m x) := by
 by_cases hc : Bj x = [] ∨ d < x.Day
 · rw [Hz hc]
   refine ⟨h.ok, fun p hp => Rm (h.top p hp) fun hd => ?_, fun f hf hk hd => ?_⟩
   · rw [Bool.eq_false_iff]
     intro e
     rcases hc with hc | hc
     · exact (h.top p hp).2.1 ((Lk e).symm.trans hc)
     omega
   rcases List.mem_append.1 hf with hf | hf
   · exact h.all f hf hk hd
   cases List.mem_singleton.1 hf
   rcases hc with hc | hc
   · exact absurd hc hk
   omega
 have hk : Bj x ≠ [] := fun e => hc (.inl e)
 have hd : x.Day ≤ d := by
   by_cases hd : x.Day ≤ d
   · exact hd
   exact absurd (.inr oQ) hc
 have others : ∀ p ∈ m, p.1 ≠ Bj x → vO (l ++ [x]) d p.2 := fun p hp hne => Rm (h.top p hp) fun _ => by
   rw [Bool.eq_false_iff]
   intro e
   exact hne ((h.ok p hp).1.trans (Lk e).symm)
 have put : (∀ g ∈ l, g.Day ≤ d → Ex g x = false) → EInv (l ++ [x]) d (Kt m (Bj x) x) := fun hx => by
   refine ⟨h.ok.set (Jz hk), fun p hp => ?_, fun f hf hkf hdf => ?_⟩
   · rcases lP hp with rfl | ⟨h1, h2⟩
     · refine ⟨by simp, hk, hd, fun g hg hdg => ?_⟩
       rcases List.mem_append.1 hg with hg | hg
       · exact hx g hg hdg
       cases List.mem_singleton.1 hg; exact Xo x
     exact others p h1 h2
   refine lQ ?_
   rcases List.mem_append.1 hf with hf | hf
   · exact .inl (h.all f hf hkf hdf)
   cases List.mem_singleton.1 hf; exact .inr rfl
 cases hg : Ra m (Bj x) with
 | none =>
   rw [Xf hc hg]
   refine put fun g hgl hgd => ?_
   rw [Bool.eq_false_iff]
   intro e
   have e1 := Lk e
   have := h.all g hgl (by rw [e1]; exact hk) hgd
   rw [e1] at this
   have hno := Tq hg
   rw [Lj] at hno
   exact hno this
 | some old =>
   have hmem : ∃ p ∈ m, p.1 = Bj x ∧ p.2 = old := by
     unfold Ra at hg
     rw [Option.map_eq_some_iff] at hg
     obtain ⟨p, hp, e⟩ := hg
     have h2 : (p.1 == Bj x) = true := List.find?_some (p := fun p : List UInt8 × Fact => p.1 == Bj x) hp
     exact ⟨p, List.mem_of_find?_eq_some hp, eq_of_beq h2, e⟩
   obtain ⟨p, hp, hpk, rfl⟩ := hmem
   cases hq : Ex x p.2 with
   | true =>
     rw [Xg hc hg hq]
     refine put fun g hgl hgd => ?_
     rw [Bool.eq_false_iff]
     intro e
     have := (h.top p hp).2.2.2 g hgl hgd
     rw [aB e hq] at this
     cases this
   | false =>
     rw [Xh hc hg hq]
     refine ⟨h.ok, fun q hq' => ?_, fun f hf hkf hdf => ?_⟩
     · refine Rm (h.top q hq') fun _ => ?_
       rw [Bool.eq_false_iff]
       intro e
       have e1 := Lk e
       have e2 := (h.ok q hq').1
       have e3 : q.1 = p.1 := by rw [e2, ← e1, hpk]
       have n := Mp
       by_cases hqp : q.2 = p.2
       · rw [hqp, hq] at e; cases e
       exact absurd (Rl (h.ok q hq').2 (h.ok p hp).2 (by rw [← e2, ← (h.ok p hp).1, e3]) ((h.top p hp).2.2.2 _ (h.top q hq').1 (h.top q hq').2.2.1) ((h.top q hq').2.2.2 _ (h.top p hp).1 (h.top p hp).2.2.1)) hqp
     rcases List.mem_append.1 hf with hf | hf
     · exact h.all f hf hkf hdf
     cases List.mem_singleton.1 hf
     exact List.mem_map.2 ⟨p, hp, hpk⟩
theorem Xq (l : List Fact) (d : Int) : EInv l d (F8 l d) := by
 have key : ∀ (r l : List Fact) (m : E3), EInv l d m → EInv (l ++ r) d (r.foldl (Ct d) m) := by
   intro r
   induction r with
   | nil => intro l m h; rw [List.append_nil]; exact h
   | cons x r ih => intro l m h; have := ih (l ++ [x]) _ (h.step x); rwa [List.append_assoc] at this
 exact key l [] [] ⟨fun p hp => (by cases hp), fun p hp => (by cases hp), fun f hf => (by cases hf)⟩
theorem lR {l : List Fact} {d : Int} {f : Fact} : f ∈ Hd (F8 l d) ↔ vO l d f := by
 have h := Xq l d
 rw [Ia h.ok]
 constructor
 · exact fun hf => h.top _ hf
 intro hf
 obtain ⟨p, hp, e⟩ := List.mem_map.1 (h.all f hf.1 hf.2.1 hf.2.2.1)
 have e : p.1 = Bj f := e
 have hpe := h.top p hp
 have : p.2 = f := Rl (h.ok p hp).2 (Jz hf.2.1) ((h.ok p hp).1.symm.trans e) (hf.2.2.2 _ hpe.1 hpe.2.2.1) (hpe.2.2.2 _ hf.1 hf.2.2.1)
 rw [← e, ← this]; exact hp
theorem U6 (l : List Fact) (d : Int) : (Hd (F8 l d)).Nodup := Hu (f := Bj) (by rw [Pg (Xq l d).ok]; exact Mp l d)
end Go.Wx
namespace Go.Proofs.YtmimclgihlhaeaaGreat
open Go.Proofs.Tryz
open Go.Wx Go.RowKit
end Go.Proofs.YtmimclgihlhaeaaGreat
end
section
namespace Go.Wx
def Sh (m : List (Int × Int)) (k : Int) : Option Int := (m.find? fun p => decide (p.1 = k)).map (·.2)
def dE (m : List (Int × Int)) : List (Int × Go.Value) := m.map fun p => (p.1, vi p.2)
def Xr (m : List (Int × Int)) (k v : Int) : List (Int × Int) := if k ∈ m.map (·.1) then m.map (fun p => if p.1 = k then (k, v) else p) else m ++ [(k, v)]
def Ka (m : List (Int × Int)) (k : Int) : Int := (Sh m k).getD k
def Rn (m : List (Int × Int)) (f : Fact) : List (Int × Int) := Xr (Xr m f.Wafer (Ka m f.Other)) f.Other (Ka m f.Wafer)
def He (t : Int) (f : Fact) : Bool := Cu f.Wafer && Cu f.Other && decide (f.Time ≤ t)
def U7 (l : List Fact) (t : Int) : List (Int × Int) := (Jg (He t) l).foldl Rn []
def Iy (l : List Fact) (t mark : Int) : Int := if Cu mark = true then Ka (U7 l t) mark else 0
theorem Xs (p : Fact → Bool) (l : List Fact) : (Jg p l).length ≤ l.length := by
 unfold Jg
 rw [(E8 _).same.length]
 exact List.length_filter_le _ _
theorem Xt (m : List (Int × Int)) : (dE m).map (·.1) = m.map (·.1) := by unfold dE; rw [List.map_map]; rfl
theorem Xu (m : List (Int × Int)) (k v : Int) : D5 (dE m) k (vi v) = dE (Xr m k v) := by
 unfold D5 Xr
 rw [Xt]
 split
 · unfold dE
   rw [List.map_map, List.map_map]
   refine List.map_congr_left fun p _ => ?_
   simp only [Function.comp]
   split <;> rfl
 unfold dE
 rw [List.map_append]; rfl
theorem lS {m : List (Int × Int)} {k v : Int} (h : Sh m k = some v) : (k, v) ∈ m := by
 unfold Sh at h
 cases hf : m.find? (fun p => decide (p.1 = k)) with
 | none => rw [hf] at h; cases h
 | some p =>
   rw [hf] at h
   have h1 : p.1 = k := by simpa using List.find?_some hf
   have h2 := List.mem_of_find?_eq_some hf
   simp at h
   rw [← h, ← h1]
   exact h2
theorem lT {m : List (Int × Int)} {k : Int} (h : Sh m k = none) : k ∉ m.map (·.1) := by
 unfold Sh at h
 rw [Option.map_eq_none_iff, List.find?_eq_none] at h
 intro hm
 obtain ⟨p, hp, e⟩ := List.mem_map.1 hm
 exact h p hp (decide_eq_true e)
theorem PEv.qT {P : Program} {n : Nat} {ds : List Deferred} {l : Env} {w : World} {d : Option Tmp} {ty : TypeId} {ps : String} {af : Array Edge} {g : Option (Nat × Bool)} {T K E : TypeId} {mo x : Operand} {b : Nat} {k : Int} {m : List (Int × Int)} (hT : P.underlying T = some (.map K E)) (hK : P.underlying K = some (.int .i64)) (hz : ∀ w, (zeroValue E).run P w = .ok (vi 0) w) (hm : Val l mo (.map (some b))) (hx : Val l x (vi k)) (h : IMap w b (dE m)) :
   PEv P n ds l w ⟨d, .lookup T mo x true, ty, ps, af, g⟩ (.tuple #[vi ((Sh m k).getD 0), .bool (Sh m k).isSome]) := by
 cases hl : Sh m k with
 | none => exact PEv.G4 (ok := true) hT hK hz hm hx h (by rw [Xt]; exact lT hl)
 | some v => exact PEv.C1 (ok := true) (v := vi v) hT hK hm hx h (List.mem_map.2 ⟨(k, v), lS hl, rfl⟩)
theorem qU {b : Nat} {kv kv' : List (Int × Go.Value)} {w w' : World} (h : IMap w' b kv') (k : Fr (· = b) w w') : Stp (Cf b kv) (Cf b kv') w w' := ⟨k, h, fun _ h => .inl h⟩
end Go.Wx
namespace Go.Proofs.YtmimclgihlhaeaaGreat
open Go.Proofs.Tryz
open Go.Wx Go.RowKit
theorem Jh (n : Int) (w : World) : Ret Tryz.prog 58 #[vi n] w fun r w' => r = .bool (Cu n) ∧ Up w w' := by
 have hW := Up.refl w
 refine cS (n := 9) (m := 9) func58 rfl rfl rfl (CW.S (LW.C (LW.S (CW.region (LW.M rfl (LW.pp (.geq (.t rfl) (.const _)) (LW.M rfl (LW.g rfl rfl rfl rfl rfl rfl rfl (fun hc => PEv.move (.t rfl)) (LW.g rfl rfl rfl rfl rfl rfl rfl (fun hc => PEv.leq vQ (.const _)) (LW.pp (.Ao (.t rfl) (fun hp => (by exact .cond rfl (by simp_all)))) (LW.A rfl (LW.T (CW.ret (Ae rfl rfl ⟨_, rfl, ?_⟩))))))))))))))
 exact ⟨rfl, hW⟩
theorem U8 (b : Nat) (m : List (Int × Int)) (mark : Int) (w : World) (hM : IMap w b (dE m)) : Ret Tryz.prog 60 #[.map (some b), vi mark] w fun r w' => r = vi (Ka m mark) ∧ Up w w' := by
 have hW := Up.refl w
 refine cS (n := 16) (m := 9) func60 rfl rfl rfl (CW.S (LW.C (LW.S (CW.S (LW.M rfl (LW.M rfl (LW.pp (.qT underlying115 underlying3 zeroValue3 (.t rfl) (.t rfl) hM) (LW.M rfl (LW.pp (.extract (.t rfl) rfl) (LW.pp (.extract (.t rfl) rfl) (LW.A rfl (LW.A rfl (LW.S (CW.region (LW.M rfl (LW.T (CW.cond (.t rfl) (fun h13 => ?_) (fun h13 => ?_))))))))))))))))))
 ·obtain ⟨v, hv⟩ := Option.isSome_iff_exists.1 h13
  refine CW.S (LW.M rfl (LW.A rfl (LW.T (CW.ret (Af (Ae rfl rfl ⟨_, rfl, ?_⟩))))))
  exact ⟨by unfold Ka; rw [hv]; rfl, hW⟩
 have hv : Sh m mark = none := by simpa using h13
 refine CW.skip (KW.then (CW.S (LW.M rfl (LW.A rfl (LW.T (CW.ret (Ae rfl rfl ⟨_, rfl, ?_⟩)))))))
 exact ⟨by unfold Ka; rw [hv]; rfl, hW⟩
theorem aE (f : Fact) (Bm b : Nat) (m : List (Int × Int)) (w : World) (hB : Blk w Bm #[.map (some b)] 115) (hM : IMap w b (dE m)) : Ret Tryz.prog 113 #[.agg f.cells, .pointer (some ⟨Bm, 0, none⟩)] w fun r w' => r = .tuple #[] ∧ Stp (Cf b (dE m)) (Cf b (dE (Rn m f))) w w' := by
 have hW := Up.refl w
 refine cS (n := 19) (m := 9) func113 rfl rfl rfl (CW.S (Ah (.C7 (.t rfl)) rfl ?_))
 rintro _ w1 ⟨B2, rfl, NB2⟩
 replace hB := hB.up NB2.up
 replace hM := hM.up NB2.up
 replace hW := hW.up NB2.up
 have hB2 := NB2.blk
 refine LW.T (aA 18 b 14 15 16 17 13 9 17 18 3 5 12 6 8 16 [.eq (.map (some b)), .eq (.pointer (some ⟨B2, 7, none⟩)), .eq (vi (f.Wafer)), .eq (.map (some b)), .eq (.pointer (some ⟨B2, 8, none⟩)), .eq (vi (f.Other)), .eq (.map (some b)), .eq (.pointer (some ⟨B2, 8, none⟩)), .eq (vi (f.Other)), .eq (vi (Ka m f.Other)), .eq (.map (some b)), .eq (.pointer (some ⟨B2, 7, none⟩)), .eq (vi (f.Wafer)), .eq (vi (Ka m f.Wafer)), .pred fun _ _ => True, .pred fun _ _ => True, .eq undef, .eq undef] (k1 := f.Wafer) (k2 := f.Other) (v1 := vi (Ka m f.Other)) (v2 := vi (Ka m f.Wafer)) underlying115 underlying3 zeroValue3 kQ rfl kQ kQ kQ kQ kQ kQ kQ kQ kQ ⟨_, _, _, rfl⟩ ⟨_, _, _, rfl⟩ ⟨_, _, _, rfl⟩ ⟨_, _, _, rfl⟩ ⟨PhC.eq _, PhC.eq _, PhC.eq _, PhC.eq _, PhC.eq _, PhC.eq _, PhC.eq _, PhC.eq _, PhC.eq _, PhC.eq _, PhC.eq _, PhC.eq _, PhC.eq _, PhC.eq _, PhC.pred (fun _ _ _ _ _ => trivial), PhC.pred (fun _ _ _ _ _ => trivial), PhC.eq _, PhC.eq _, trivial⟩ (fun _ _ => trivial) (fun _ _ => trivial) (fun _ h => by cases h; exact ⟨rfl, rfl⟩) (fun _ h => by cases h; exact ⟨rfl, rfl⟩) (fun _ h => by cases h; exact ⟨rfl, rfl, rfl⟩) hM ?_ ?_)
 ·intro W hU
  refine aC (.inr ⟨rfl, fun hI => TU.p (.ld isAgg115 rfl (hU.cell _ _ (Gd (hB.Ai rfl) (Up.drew _)))) rfl⟩) (aC (.inr ⟨rfl, fun hI => TU.p (.fA 7 underlying36 rfl sizeOf3 rfl) rfl⟩) (aC (.inr ⟨rfl, fun hI => TU.p (.ld isAgg3 rfl (hU.cell _ _ (Gd (hB2.Ai rfl) (Up.drew _)))) rfl⟩) (aC (.inr ⟨rfl, fun hI => TU.p (.ld isAgg115 rfl (hU.cell _ _ (Gd (hB.Ai rfl) (Up.drew _)))) rfl⟩) (aC (.inr ⟨rfl, fun hI => TU.p (.fA 8 underlying36 rfl sizeOf3 rfl) rfl⟩) (aC (.inr ⟨rfl, fun hI => TU.p (.ld isAgg3 rfl (hU.cell _ _ (Gd (hB2.Ai rfl) (Up.drew _)))) rfl⟩) (aC (.inr ⟨rfl, fun hI => TU.p (.ld isAgg115 rfl (hU.cell _ _ (Gd (hB.Ai rfl) (Up.drew _)))) rfl⟩) (aC (.inr ⟨rfl, fun hI => TU.p (.fA 8 underlying36 rfl sizeOf3 rfl) rfl⟩) (aC (.inr ⟨rfl, fun hI => TU.p (.ld isAgg3 rfl (hU.cell _ _ (Gd (hB2.Ai rfl) (Up.drew _)))) rfl⟩) (aC (.inr ⟨rfl, fun hI => TU.c (eC (.u rfl rfl) (tC)) (U8 _ _ _ _ (hI (.inr rfl))) sQ⟩) (aC (.inr ⟨rfl, fun hI => TU.p (.ld isAgg115 rfl (hU.cell _ _ (Gd (hB.Ai rfl) (Up.drew _)))) rfl⟩) (aC (.inr ⟨rfl, fun hI => TU.p (.fA 7 underlying36 rfl sizeOf3 rfl) rfl⟩) (aC (.inr ⟨rfl, fun hI => TU.p (.ld isAgg3 rfl (hU.cell _ _ (Gd (hB2.Ai rfl) (Up.drew _)))) rfl⟩) (aC (.inr ⟨rfl, fun hI => TU.c (eC (.u rfl rfl) (tC)) (U8 _ _ _ _ (hI (.inl rfl))) sQ⟩) (aC (.inl cQ) (aC (.inl cQ) (aC (.inl cQ) (aC (.inl cQ) ?_)))))))))))))))))
  exact allL.nil
 intro w2 hFr hM2
 rw [Xu, Xu] at hM2
 refine LW.nil (Dl rfl ⟨_, rfl, ?_⟩)
 exact ⟨rfl, qU hM2 ((hW.trans (Up.drew _)).fr _ |>.trans hFr)⟩
theorem lU (f : Fact) (Bt : Nat) (t : Int) (w : World) (hB : Blk w Bt #[vi t] 3) : Ret Tryz.prog 115 #[.agg f.cells, .pointer (some ⟨Bt, 0, none⟩)] w fun r w' => r = .bool (He t f) ∧ Up w w' := by
 have hW := Up.refl w
 refine cS (n := 18) (m := 9) func115 rfl rfl rfl (CW.S (Ah (.C7 (.t rfl)) rfl ?_))
 rintro _ w1 ⟨B2, rfl, NB2⟩
 replace hB := hB.up NB2.up
 replace hW := hW.up NB2.up
 have hB2 := NB2.blk
 refine LW.C (LW.S (CW.region (LW.pp (.fA 7 underlying36 rfl sizeOf3 rfl) (LW.pp (.ld isAgg3 rfl (hB2.Ai rfl)) (LW.K (eC (.o rfl) (fB)) rfl (Jh _ _) ?_)))))
 rintro _ w2 ⟨rfl, uw2⟩
 replace hB := hB.up uw2
 replace hW := hW.up uw2
 replace hB2 := hB2.up uw2
 refine LW.M rfl (LW.g rfl rfl rfl rfl rfl rfl rfl (fun hc => PEv.fA 8 underlying36 rfl sizeOf3 rfl) (LW.g rfl rfl rfl rfl rfl rfl rfl (fun hc => PEv.load isAgg3 vQ (hB2.Ai rfl)) (LW.gc rfl rfl rfl rfl rfl rfl rfl rfl (fun hc => Aw (.cons vQ .nil) (fB)) (fun hc => Jh _ _) ?_)))
 intro w3 uw3
 replace hB := hB.up uw3
 replace hW := hW.up uw3
 replace hB2 := hB2.up uw3
 refine LW.pp (.Ao (.t rfl) (fun hp => (by exact .cond rfl (by simp_all)))) (LW.M rfl (LW.g rfl rfl rfl rfl rfl rfl rfl (fun hc => PEv.fA 5 underlying36 rfl sizeOf3 rfl) (LW.g rfl rfl rfl rfl rfl rfl rfl (fun hc => PEv.load isAgg3 vQ (hB2.Ai rfl)) (LW.g rfl rfl rfl rfl rfl rfl rfl (fun hc => PEv.ld isAgg3 rfl (hB.Ai rfl)) (LW.g rfl rfl rfl rfl rfl rfl rfl (fun hc => PEv.leq vQ vQ) (LW.pp (.Ao (.t rfl) (fun hp => (by exact .cond rfl (by simp_all)))) (LW.A rfl (LW.T (CW.ret (Ae rfl rfl ⟨_, rfl, ?_⟩))))))))))
 exact ⟨rfl, hW⟩
theorem lV (v : Go.Value) (xs : List Fact) (w : World) (ho : OwnS w 0 198 19 Fact.cells v xs) (h63 : xs.length ≤ 1000000000) : Ret Tryz.prog 163 #[v, .func (.func 164) #[] #[]] w fun r w' => r = .tuple #[] ∧ Stp (Al 198 19 Fact.cells v xs) (Al 198 19 Fact.cells v (D8 Cg xs)) w w' := by
 have h0 := ho
 obtain ⟨_, ⟨rfl, hn⟩ | ⟨g, cap, cur, rfl, _⟩⟩ := h0
 · have hx : xs = [] := List.eq_nil_of_length_eq_zero hn
   subst hx
   exact (Kn false _ w).mono fun r w' ⟨e, u⟩ => ⟨e, (Stp.refl ho).up u⟩
 refine (Km false 164 #[] Cg yE g xs.length cap xs w ho h63 (fun W _ x y => U3 x y W)).mono ?_
 rintro r w' ⟨e, zs, hz, hs⟩
 rw [hz.eq] at hs
 exact ⟨e, hs⟩
theorem Xv (pf : Nat) (lb : Array Go.Value) (p : Fact → Bool) (hen : ∀ args w, (callFunc pf args).run Tryz.prog w = .ok (.enter pf args) w) (ad : Option Addr) (cp : Nat) (l : List Fact) (w : World) (hE0 : Els w ad 19 Fact.cells l) (hl : l.length ≤ 1000000000) (hp : ∀ W, Up w W → ∀ x ∈ l, Ret Tryz.prog pf (#[.agg x.cells] ++ lb) W fun r W' => r = .bool (p x) ∧ Up W W') : Ret Tryz.prog 114 #[.slice ad l.length cp, .func (.func pf) #[] lb] w fun r w' => OwnS w' w.heap.size 36 19 Fact.cells r (Jg p l) ∧ Up w w' := by
 obtain ⟨w0, rfl⟩ : ∃ w0, w0 = w := ⟨_, rfl⟩
 have hS := Sep.start no w0
 refine cS (n := 13) (m := 9) func114 rfl rfl rfl (CW.S (LW.C (LW.S (CW.region (LW.M rfl (LW.M rfl (LW.K (eC (.cons (.t rfl) (.cons (.func _) (.cons (.t rfl) .nil))) (yB)) rfl (lG pf lb p hen ad cp l _ (Els.up hE0 hS.Ce) hl (fun W hU => hp W (hS.Ce.trans hU))) ?_)))))))
 rintro v8 w1 ⟨hO8, uw1⟩
 have zw1 := uw1.size
 replace hS := hS.add uw1 (A' := Al 198 19 Fact.cells v8 (l.filter p)) (hO8.mono (Nat.zero_le _)) (fun i h => hO8.base i h)
 refine LW.A rfl (LW.S (CW.region (LW.M rfl (LW.K (eC (.cons (.t rfl) (.cons (.func _) .nil)) (yD)) rfl (lV v8 (l.filter p) _ (hS.own 0 rfl) (Nat.le_trans (List.length_filter_le _ _) hl)) ?_))))
 rintro _ w2 ⟨rfl, uw2⟩
 have zw2 := uw2.fr.size
 replace hS := hS.Dh 0 rfl uw2
 obtain ⟨ad9, cp9, rfl, hE9⟩ := (hS.own 0 rfl).sl (fun _ => rfl)
 have hl9 : (D8 Cg (l.filter p)).length ≤ 1000000000 := by rw [(E8 _).same.length]; exact Nat.le_trans (List.length_filter_le _ _) hl
 refine LW.S (CW.region (LW.M rfl (LW.K (eC (.cons (.t rfl) (.cons (.func _) (.cons (.func _) .nil))) (yF)) rfl (lH 167 #[] (fun _ => true) yH ad9 cp9 (D8 Cg (l.filter p)) _ hE9 hl9 (fun W _ x _ => gM x W)) ?_)))
 rintro v12 w3 ⟨hO12, uw3⟩
 have zw3 := uw3.size
 replace hS := hS.up uw3
 rw [List.filter_eq_self.2 (fun _ _ => rfl)] at hO12
 replace hO12 := hO12.mono (show w0.heap.size ≤ _ by omega)
 refine LW.A rfl (LW.T (CW.ret (Ae rfl rfl ⟨_, rfl, ?_⟩)))
 exact ⟨hO12, hS.Ce⟩
theorem uM (bc : Array Go.Value) (bs : Base) (time : Int) (w : World) (hC : BaseC w bc bs) (hl : bs.Swaps.length ≤ 1000000000) : Ret Tryz.prog 59 #[.agg bc, vi time] w fun r w' => ∃ b, r = .map (some b) ∧ IMap w' b (dE (U7 bs.Swaps time)) ∧ w.heap.size ≤ b ∧ Up w w' := by
 obtain ⟨w0, rfl⟩ : ∃ w0, w0 = w := ⟨_, rfl⟩
 have hS := Sep.start no w0
 refine cS (n := 25) (m := 9) func59 rfl rfl rfl (CW.S (Ah (.C7 (.t rfl)) rfl ?_))
 rintro _ w1 ⟨B2, rfl, NB2⟩
 replace hS := hS.Cj NB2
 refine Ah (.L5 (.t rfl) rfl) rfl ?_
 rintro _ w2 ⟨B3, rfl, NB3⟩
 replace hS := hS.Cj NB3
 refine LW.C (LW.S ?_)
 skip
 refine CW.region (LW.r REv.makeMap rfl rfl rfl rfl ?_)
 rintro _ w3 ⟨M9, rfl, hMM9, uw3, eM9, zw3⟩
 replace hS := hS.add uw3 (A' := Cf M9 (dE [])) hMM9 (fun i (h : i = M9) => by omega)
 refine Ah (.Y7 zeroValue115 rfl) rfl ?_
 rintro _ w4 ⟨B5, rfl, MB5⟩
 refine LW.E (.store sizeOf115 (.t rfl) (.t rfl) rfl MB5.blk cQ) ?_
 intro w5 LB5
 have NB5 := MB5.set LB5
 replace hS := hS.Cj NB5
 refine LW.S (CW.region (LW.pp (.makeFunc (.cons (.t rfl) .nil)) (LW.A rfl (LW.S (CW.seq ?_)))))
 obtain ⟨v2, h2, ad, cp, rfl, hEs⟩ := (hC.up hS.Ce).DF
 refine CW.region (LW.pp (.fA 2 underlying38 rfl sizeOf23 rfl) (LW.pp (.ld isAgg23 rfl ((hS.blk 0 rfl).cell h2)) (LW.pp (.makeFunc (.cons (.t rfl) .nil)) (LW.K (eC (.u rfl rfl) (xA)) rfl (Xv 115 #[.pointer (some ⟨B3, 0, none⟩)] (He time) xB ad cp bs.Swaps _ hEs hl (fun W hU x _ => lU x B3 time W (((hS.blk 1 rfl)).up hU))) ?_))))
 rintro v14 w6 ⟨hO14, uw6⟩
 replace hS := hS.add uw6 (A' := Al 36 19 Fact.cells v14 ((Jg (He time) bs.Swaps))) (hO14.mono (Nat.zero_le _)) (fun i h => hO14.base i h)
 obtain ⟨ad14, cp14, rfl, _⟩ := (hS.own 4 rfl).sl (fun _ => rfl)
 refine LW.pp (.Ci underlying23 (.t rfl)) (LW.pp (.move (.const _)) (LW.T (CW.block (Am (σ := Nat) (fun s w => (s ≤ (Jg (He time) bs.Swaps).length) ∧ (Wx.Sep no w0 w [Ck B2 bc 38, Ck B3 #[vi time] 3, Cf M9 (dE (((Jg (He time) bs.Swaps).take s).foldl Rn [])), Ck B5 #[.map (some M9)] 115, Al 36 19 Fact.cells (.slice ad14 (Jg (He time) bs.Swaps).length cp14) ((Jg (He time) bs.Swaps))])) (fun s => [(16, .eq (vi (s : Int)))]) ([(4, .eq _), (5, .eq _), (6, .eq _), (14, .eq _), (15, .eq _)]) (fun s => (Jg (He time) bs.Swaps).length - s) 0 ?_ ⟨rfl, rfl, rfl, rfl, rfl, rfl, trivial⟩ ?_))))
 ·exact ⟨Nat.zero_le _, hS⟩
 rintro k w7 ⟨hk, hS⟩
 refine CW.S (LW.pp (.lss (.t rfl) (.t rfl)) (LW.S (CW.cond (.t rfl) (fun h17 => ?_) (fun h17 => ?_))))
 ·replace h17 := dQ h17
  refine CW.skip (KW.then (CW.seq (CW.block (CW.seq ?_))))
  have hE := (hS.own 4 rfl).els (fun _ => rfl)
  have hol := Xs (He time) bs.Swaps
  refine CW.region ?_
  obtain ⟨x, hx⟩ := Ac (xs := (Jg (He time) bs.Swaps)) (i := k) oQ
  obtain ⟨Bx, ox, ax, hcx⟩ := hE _ x hx
  refine LW.pp (.Aj underlying23 sizeOf36 (.t rfl) (.t rfl) oQ ax) (LW.pp (.la isAgg36 sizeOf36 rfl (hcx)) (Ah (.Az zeroValue36) rfl ?_))
  rintro _ w8 ⟨B8, rfl, MB8⟩
  refine LW.E (.Ay sizeOf36 rfl (.t rfl) (.t rfl) (Fact.one _) MB8.blk rfl) ?_
  intro w9 LB8
  have NB8 := MB8.set LB8
  replace hcx := hcx.up NB8.up
  replace hS := hS.Cj NB8
  refine LW.T (CW.region (LW.M rfl (LW.pp (.la isAgg36 sizeOf36 rfl ((hS.blk 5 rfl).agg)) (LW.K (Cq (.t rfl) (.cons (.t rfl) .nil) (wZ)) rfl (aE x B5 M9 _ _ (hS.blk 3 rfl) (hS.get 2 rfl)) ?_))))
  rintro _ w10 ⟨rfl, uw10⟩
  replace hS := hS.Dh 2 rfl uw10
  refine LW.nil (KW.inBlock (KW.then (CW.region (LW.pp (.inc (.t rfl) oQ) (LW.M rfl (LW.nil (KW.round ?_)))))))
  exact ⟨k + 1, ⟨by omega, by rw [Ar hx, List.foldl_append]; exact hS.take 5⟩, ⟨rfl, rfl, rfl, rfl, rfl, rfl, trivial⟩, by omega⟩
 replace h17 := dQ h17
 refine CW.exit (Aa (Aa (Ad (KW.then (CW.S (LW.pp (.ld isAgg115 rfl ((hS.blk 3 rfl).Ai rfl)) (LW.A rfl (LW.T (CW.ret (Ae rfl rfl ⟨_, rfl, ?_⟩))))))))))
 have hkl : k = (Jg (He time) bs.Swaps).length := by omega
 rw [hkl, List.take_length] at hS
 exact ⟨M9, rfl, hS.get 2 rfl, (hS.foot 2 rfl M9 rfl).resolve_left (fun h => h), hS.Ce⟩
end Go.Proofs.YtmimclgihlhaeaaGreat
end
section
namespace Go.Wx
def G7 (wafer time : Int) (best : Option Fact) (f : Fact) : Bool := Cu wafer && decide (f.Wafer = wafer) && decide (f.Time ≤ time) && (match best with | none => true | some g => decide (g.Time < f.Time))
def dG (wafer time : Int) (best : Option Fact) (f : Fact) : Option Fact := if G7 wafer time best f = true then some f else best
def Eh (l : List Fact) (wafer time : Int) : Option Fact := l.foldl (dG wafer time) none
def D6 (l : List Fact) (wafer time : Int) : Int × Int := match Eh l wafer time with | none => (0, 0) | some f => (f.Lot, f.Product)
theorem Gj (l : List Fact) (f : Fact) (wafer time : Int) : Eh (l ++ [f]) wafer time = dG wafer time (Eh l wafer time) f := by simp [Eh]
def Np (ad : Option Addr) (k : Nat) : Option Nat → Option Addr
 | none => none
 | some j => ad.map fun a => ⟨a.block, a.off + j * k, none⟩
def sN (f : Fact) (k : Int) : Int := if k = f.Wafer then f.Other else if k = f.Other then f.Wafer else k
def gP (L : List Fact) (k : Int) : Int := L.foldr sN k
theorem Kv (p : Int × Int) (m : List (Int × Int)) (j : Int) : Sh (p :: m) j = if p.1 = j then some p.2 else Sh m j := by
 unfold Sh
 rw [List.find?_cons]
 by_cases h : p.1 = j
 · rw [decide_eq_true h, if_pos h]; rfl
 rw [decide_eq_false h, if_neg h]
theorem qV (m : List (Int × Int)) (k v j : Int) (hk : k ∉ m.map (·.1)) : Sh (m ++ [(k, v)]) j = if j = k then some v else Sh m j := by
 induction m with
 | nil =>
   rw [List.nil_append, Kv]
   by_cases h : j = k
   · rw [if_pos h, if_pos h.symm]
   rw [if_neg h, if_neg (Ne.symm h)]
 | cons p m ih =>
   rw [List.map_cons, List.mem_cons, not_or] at hk
   rw [List.cons_append, Kv, Kv, ih hk.2]
   by_cases h : p.1 = j
   · rw [if_pos h, if_pos h, if_neg (fun e => hk.1 (by rw [h, e]))]
   rw [if_neg h, if_neg h]
theorem qW (m : List (Int × Int)) (k v j : Int) (hk : k ∈ m.map (·.1)) : Sh (m.map fun p => if p.1 = k then (k, v) else p) j = if j = k then some v else Sh m j := by
 have gen : ∀ m : List (Int × Int), Sh (m.map fun p => if p.1 = k then (k, v) else p) j = if j = k then (if k ∈ m.map (·.1) then some v else none) else Sh m j := by
   intro m
   induction m with
   | nil => by_cases h : j = k <;> simp [h, Sh]
   | cons p m ih =>
     rw [List.map_cons, Kv, ih, Kv]
     by_cases h : j = k
     · subst h
       by_cases e : p.1 = j
       · simp [e]
       have hm : (j ∈ (p :: m).map (·.1)) ↔ j ∈ m.map (·.1) := by rw [List.map_cons, List.mem_cons]; exact ⟨fun h => h.resolve_left (fun x => e x.symm), .inr⟩
       rw [if_neg e, if_neg e, if_pos rfl, if_pos rfl]
       by_cases hk : j ∈ m.map (·.1)
       · rw [if_pos hk, if_pos (hm.2 hk)]
       rw [if_neg hk, if_neg (fun x => hk (hm.1 x))]
     by_cases e : p.1 = k
     · rw [if_pos e, if_neg (Ne.symm h), if_neg h, if_neg h, if_neg (by rw [e]; exact Ne.symm h)]
     rw [if_neg e, if_neg h, if_neg h]
 rw [gen, if_pos hk]
theorem dH (m : List (Int × Int)) (k v j : Int) : Sh (Xr m k v) j = if j = k then some v else Sh m j := by
 unfold Xr
 split
 · exact qW m k v j (by assumption)
 exact qV m k v j (by assumption)
theorem gQ (m : List (Int × Int)) (f : Fact) (k : Int) : Ka (Rn m f) k = Ka m (sN f k) := by
 unfold Rn
 show (Sh (Xr (Xr m f.Wafer (Ka m f.Other)) f.Other (Ka m f.Wafer)) k).getD k = Ka m (sN f k)
 rw [dH, dH]
 unfold sN
 by_cases h1 : k = f.Wafer
 · rw [if_pos h1, if_pos h1]
   by_cases h2 : k = f.Other
   · rw [if_pos h2, ← h1, ← h2]; rfl
   rw [if_neg h2]; rfl
 rw [if_neg h1, if_neg h1]
 by_cases h2 : k = f.Other
 · rw [if_pos h2, if_pos h2]; rfl
 rw [if_neg h2, if_neg h2]; rfl
theorem gR (L : List Fact) : ∀ (m : List (Int × Int)) (k : Int), Ka (L.foldl Rn m) k = Ka m (gP L k) := by
 induction L with
 | nil => intro m k; rfl
 | cons f L ih => intro m k; rw [List.foldl_cons, ih, gQ]; rfl
theorem aF (L : List Fact) (k : Int) : Ka (L.foldl Rn []) k = gP L k := by rw [gR]; rfl
theorem dI (l : List Fact) (t k : Int) : Iy l t k = if Cu k = true then gP (Jg (He t) l) k else 0 := by unfold Iy U7; rw [aF]
theorem U9 {xs ys : List Int} {k : Nat} {x y : Int} (h : xs.take k = ys.take k) (hx : xs[k]? = some x) (hy : ys[k]? = some y) (e : x = y) : xs.take (k + 1) = ys.take (k + 1) := by rw [Ar hx, Ar hy, h, e]
theorem lW {xs ys : List Int} {k : Nat} {x y : Int} (hx : xs[k]? = some x) (hy : ys[k]? = some y) (e : ¬ x = y) : ¬ xs = ys := fun h => e (by subst h; rw [hx] at hy; cases hy; rfl)
end Go.Wx
namespace Go.Proofs.YtmimclgihlhaeaaGreat
open Go.Proofs.Tryz
open Go.Wx Go.RowKit
set_option maxHeartbeats 1000000 in
theorem qX (bc : Array Go.Value) (b : Base) (wafer time : Int) (w : World) (hC : BaseC w bc b) (hlen : b.Lots.length < 9223372036854775807) : Ret Tryz.prog 105 #[.agg bc, vi wafer, vi time] w fun r w' => r = .tuple #[vi (D6 b.Lots wafer time).1, vi (D6 b.Lots wafer time).2] ∧ Up w w' := by
 have hW := Up.refl w
 obtain ⟨w0, rfl⟩ : ∃ w0, w0 = w := ⟨_, rfl⟩
 refine cS (n := 61) (m := 9) func105 rfl rfl rfl (CW.S (Ah (.C7 (.t rfl)) rfl ?_))
 rintro _ w1 ⟨B3, rfl, NB3⟩
 replace hC := hC.up NB3.up
 replace hW := hW.up NB3.up
 have hB3 := NB3.blk
 refine LW.C (LW.C (LW.S (CW.region (LW.C (LW.S (CW.seq ?_))))))
 obtain ⟨v3, h3, hr⟩ := hC.vU
 obtain ⟨ad, cp, rfl, hE⟩ := hr
 refine CW.region (LW.pp (.fA 3 underlying38 rfl sizeOf23 rfl) (LW.pp (.ld isAgg23 rfl (hB3.cell h3)) (LW.pp (.Ci underlying23 (.t rfl)) (LW.pp (.move (.const _)) (LW.T (CW.block (CW.loop (σ := Nat × Option Nat) (fun s w => (s.1 ≤ b.Lots.length ∧ (∀ j, s.2 = some j → j < s.1) ∧ (s.2.bind fun j => b.Lots[j]?) = Eh (b.Lots.take s.1) wafer time) ∧ Els w ad 19 Fact.cells b.Lots ∧ Blk w B3 bc 38 ∧ Up w0 w) (fun s => [(8, .eq (.pointer (Np ad 19 s.2))), (14, .eq (vi (s.1 : Int))), (1, .eq (vi wafer)), (2, .eq (vi time)), (3, .eq (.pointer (some ⟨B3, 0, none⟩))), (12, .eq (.slice ad b.Lots.length cp)), (13, .eq (vi (b.Lots.length : Int)))]) (fun s => b.Lots.length - s.1) (0, none) ?_ ?_ ?_)))))))
 ·exact ⟨⟨Nat.zero_le _, fun j e => (by cases e), rfl⟩, hE, hB3, hW⟩
 ·exact ⟨rfl, rfl, rfl, rfl, rfl, rfl, rfl, trivial⟩
 rintro ⟨k, best⟩ w2 ⟨⟨hk, hj, hbest⟩, hE, hB3, hW⟩
 dsimp only at hk hj hbest
 rcases best with _ | j
 ·skip
  refine CW.S (LW.pp (.lss (.t rfl) (.t rfl)) (LW.S (CW.cond (.t rfl) (fun h15 => ?_) (fun h15 => ?_))))
  ·replace h15 := dQ h15
   refine CW.skip (KW.then (CW.seq (CW.block (CW.seq ?_))))
   obtain ⟨x, hx⟩ := Ac (xs := b.Lots) (i := k) oQ
   obtain ⟨B, o, had, hcell⟩ := hE k x hx
   subst had
   refine CW.region (LW.M rfl (LW.pp (.indexAddr underlying23 sizeOf36 (.t rfl) (.t rfl) oQ) (LW.pp (.la isAgg36 sizeOf36 rfl (hcell)) (Ah (.Az zeroValue36) rfl ?_))))
   rintro _ w3 ⟨B10, rfl, MB10⟩
   refine LW.A rfl (LW.E (.Ay sizeOf36 rfl (.t rfl) (.t rfl) eQ MB10.blk rfl) ?_)
   intro w4 LB10
   have NB10 := MB10.set LB10
   replace hE := hE.up NB10.up
   replace hB3 := hB3.up NB10.up
   replace hW := hW.up NB10.up
   have hB10 := NB10.blk
   refine LW.S (Ch kQ kQ rfl rfl (HW.pp (.move (.t rfl)) (HW.c (fun a w _ ha => Aw (.cons (.t rfl) .nil) (fB) a ha) rfl rfl (fun w hu => Jh _ _) (HW.pp (.move (.t rfl)) (HW.g rfl rfl rfl rfl rfl rfl (fun hc => PEv.fA 7 underlying36 rfl sizeOf3 rfl) (HW.g rfl rfl rfl rfl rfl rfl (fun hc => PEv.load isAgg3 vQ (hB10.Ai rfl)) (HW.g rfl rfl rfl rfl rfl rfl (fun hc => PEv.move (.t rfl)) (HW.g rfl rfl rfl rfl rfl rfl (fun hc => PEv.eql vQ vQ) (HW.pp (.Ao (.t rfl) (fun hp => (by exact .cond rfl (by simp_all)))) (HW.pp (.move (.t rfl)) (HW.g rfl rfl rfl rfl rfl rfl (fun hc => PEv.fA 5 underlying36 rfl sizeOf3 rfl) (HW.g rfl rfl rfl rfl rfl rfl (fun hc => PEv.load isAgg3 vQ (hB10.Ai rfl)) (HW.g rfl rfl rfl rfl rfl rfl (fun hc => PEv.move (.t rfl)) (HW.g rfl rfl rfl rfl rfl rfl (fun hc => PEv.leq vQ vQ) (HW.pp (.Ao (.t rfl) (fun hp => (by exact .cond rfl (by simp_all)))) (HW.pp (.move (.t rfl)) (HW.g rfl rfl rfl rfl rfl rfl (fun hc => PEv.move (.t rfl)) (HW.g rfl rfl rfl rfl rfl rfl (fun hc => PEv.N9 underlying165 vQ) (HW.g rfl rfl rfl rfl rfl rfl (fun hc => PEv.move vQ) (L6 rfl rfl rfl rfl rfl rfl rfl (L6 rfl rfl rfl rfl rfl rfl rfl (L6 rfl rfl rfl rfl rfl rfl rfl (L6 rfl rfl rfl rfl rfl rfl rfl (L6 rfl rfl rfl rfl rfl rfl rfl (L6 rfl rfl rfl rfl rfl rfl rfl (L6 rfl rfl rfl rfl rfl rfl rfl (HW.g rfl rfl rfl rfl rfl rfl (fun hc => PEv.A7 (b := true) vQ (fun hp => absurd (show true = false from hp) cQ)) (HW.pp (.Ao (.t rfl) (fun hp => (by exact .cond rfl (by simp_all)))) (HW.nil ?_)))))))))))))))))))))))))))))
   intro w5 uw5
   replace hE := hE.up uw5
   replace hB3 := hB3.up uw5
   replace hW := hW.up uw5
   replace hB10 := hB10.up uw5
   refine KW.then (CW.cond (.t rfl) (fun h45 => ?_) (fun h45 => ?_))
   ·replace h45 := dQ h45
    have hnew : Eh (b.Lots.take (k + 1)) wafer time = some x := by rw [Ar hx, Gj, ← hbest]; exact if_pos (by simpa [G7, Np] using h45)
    have hend : ∃ s' : Nat × Option Nat, s'.2 = some k ∧ s'.1 = k + 1 := ⟨(k + 1, some k), rfl, rfl⟩
    refine CW.region (LW.pp (.fA 3 underlying38 rfl sizeOf23 rfl) (LW.pp (.ld isAgg23 rfl (hB3.cell h3)) (LW.M rfl (LW.pp (.indexAddr underlying23 sizeOf36 (.t rfl) (.t rfl) oQ) (LW.A rfl (LW.nil (KW.inBlock (KW.then (CW.region (LW.pp (.inc (.t rfl) oQ) (LW.M rfl (LW.nil (KW.round ?_)))))))))))))
    exact ⟨(k + 1, some k), ⟨⟨by omega, fun j e => (by cases e; omega), by rw [hnew]; exact hx⟩, hE, hB3, hW⟩, ⟨rfl, rfl, rfl, rfl, rfl, rfl, rfl, trivial⟩, by omega⟩
   replace h45 := dQ h45
   have hnew : Eh (b.Lots.take (k + 1)) wafer time = none := by rw [Ar hx, Gj, ← hbest]; exact if_neg (by simpa [G7, Np] using h45)
   refine CW.skip (KW.inBlock (KW.then (CW.region (LW.pp (.inc (.t rfl) oQ) (LW.M rfl (LW.nil (KW.round ?_)))))))
   exact ⟨(k + 1, none), ⟨⟨by omega, fun j e => (by cases e), by rw [hnew]; rfl⟩, hE, hB3, hW⟩, ⟨rfl, rfl, rfl, rfl, rfl, rfl, rfl, trivial⟩, by dsimp only; omega⟩
  replace h15 := dQ h15
  have hkk : k = b.Lots.length := by omega
  subst hkk
  rw [List.take_length] at hbest
  have hres : D6 b.Lots wafer time = (0, 0) := by unfold D6; rw [← hbest]; rfl
  refine CW.exit (Aa (Aa (Ad (KW.then (CW.seq (CW.S (LW.M rfl (LW.pp (.N9 underlying165 (.t rfl)) (LW.T (CW.cond_true (.t rfl) (CW.S (LW.C (LW.C (LW.T (CW.ret (Af (Ge rfl rfl rfl ⟨_, rfl, ?_⟩)))))))))))))))))
  exact ⟨by rw [hres] <;> rfl, hW⟩
 obtain ⟨y, hy⟩ := Ac (xs := b.Lots) (i := j) (by have := hj j rfl; omega)
 obtain ⟨B, o, had, hyc⟩ := hE j y hy
 subst had
 have hby : Eh (b.Lots.take k) wafer time = some y := by rw [← hbest]; exact hy
 refine CW.S (LW.pp (.lss (.t rfl) (.t rfl)) (LW.S (CW.cond (.t rfl) (fun h15 => ?_) (fun h15 => ?_))))
 ·replace h15 := dQ h15
  refine CW.skip (KW.then (CW.seq (CW.block (CW.seq ?_))))
  obtain ⟨x, hx⟩ := Ac (xs := b.Lots) (i := k) oQ
  obtain ⟨B', o', e', hcell⟩ := hE k x hx
  cases e'
  refine CW.region (LW.M rfl (LW.pp (.indexAddr underlying23 sizeOf36 (.t rfl) (.t rfl) oQ) (LW.pp (.la isAgg36 sizeOf36 rfl (hcell)) (Ah (.Az zeroValue36) rfl ?_))))
  rintro _ w6 ⟨B10, rfl, MB10⟩
  refine LW.A rfl (LW.E (.Ay sizeOf36 rfl (.t rfl) (.t rfl) eQ MB10.blk rfl) ?_)
  intro w7 LB10
  have NB10 := MB10.set LB10
  replace hE := hE.up NB10.up
  replace hB3 := hB3.up NB10.up
  replace hW := hW.up NB10.up
  replace hyc := hyc.up NB10.up
  have hB10 := NB10.blk
  refine LW.S (Ch kQ kQ rfl rfl (HW.pp (.move (.t rfl)) (HW.c (fun a w _ ha => Aw (.cons (.t rfl) .nil) (fB) a ha) rfl rfl (fun w hu => Jh _ _) (HW.pp (.move (.t rfl)) (HW.g rfl rfl rfl rfl rfl rfl (fun hc => PEv.fA 7 underlying36 rfl sizeOf3 rfl) (HW.g rfl rfl rfl rfl rfl rfl (fun hc => PEv.load isAgg3 vQ (hB10.Ai rfl)) (HW.g rfl rfl rfl rfl rfl rfl (fun hc => PEv.move (.t rfl)) (HW.g rfl rfl rfl rfl rfl rfl (fun hc => PEv.eql vQ vQ) (HW.pp (.Ao (.t rfl) (fun hp => (by exact .cond rfl (by simp_all)))) (HW.pp (.move (.t rfl)) (HW.g rfl rfl rfl rfl rfl rfl (fun hc => PEv.fA 5 underlying36 rfl sizeOf3 rfl) (HW.g rfl rfl rfl rfl rfl rfl (fun hc => PEv.load isAgg3 vQ (hB10.Ai rfl)) (HW.g rfl rfl rfl rfl rfl rfl (fun hc => PEv.move (.t rfl)) (HW.g rfl rfl rfl rfl rfl rfl (fun hc => PEv.leq vQ vQ) (HW.pp (.Ao (.t rfl) (fun hp => (by exact .cond rfl (by simp_all)))) (HW.pp (.move (.t rfl)) (HW.g rfl rfl rfl rfl rfl rfl (fun hc => PEv.move (.t rfl)) (HW.g rfl rfl rfl rfl rfl rfl (fun hc => PEv.N9 underlying165 vQ) (HW.g rfl rfl rfl rfl rfl rfl (fun hc => PEv.move vQ) (HW.gg rfl rfl rfl rfl rfl rfl (fun hc => PEv.fA 5 underlying36 rfl sizeOf3 rfl) (HW.gg rfl rfl rfl rfl rfl rfl (fun hc => PEv.load isAgg3 vQ (hB10.Ai rfl)) (HW.gg rfl rfl rfl rfl rfl rfl (fun hc => PEv.move (.t rfl)) (HW.gg rfl rfl rfl rfl rfl rfl (fun hc => PEv.nilCheck vQ) (HW.gg rfl rfl rfl rfl rfl rfl (fun hc => PEv.fieldAddr (off := 5) underlying36 rfl rfl sizeOf3 rfl vQ) (HW.gg rfl rfl rfl rfl rfl rfl (fun hc => PEv.load isAgg3 vQ (hyc.nth (j := 5) rfl)) (HW.gg rfl rfl rfl rfl rfl rfl (fun hc => PEv.gtr vQ vQ) (HW.g rfl rfl rfl rfl rfl rfl (fun hc => PEv.A7 vQ (fun hp => (by exact .cond rfl (by simp_all)))) (HW.pp (.Ao (.t rfl) (fun hp => (by exact .cond rfl (by simp_all)))) (HW.nil ?_)))))))))))))))))))))))))))))
  intro w8 uw8
  replace hE := hE.up uw8
  replace hB3 := hB3.up uw8
  replace hW := hW.up uw8
  replace hyc := hyc.up uw8
  replace hB10 := hB10.up uw8
  refine KW.then (CW.cond (.t rfl) (fun h45 => ?_) (fun h45 => ?_))
  ·replace h45 := dQ h45
   have hnew : Eh (b.Lots.take (k + 1)) wafer time = some x := by rw [Ar hx, Gj, hby]; exact if_pos (by simpa [G7, Np] using h45)
   refine CW.region (LW.pp (.fA 3 underlying38 rfl sizeOf23 rfl) (LW.pp (.ld isAgg23 rfl (hB3.cell h3)) (LW.M rfl (LW.pp (.indexAddr underlying23 sizeOf36 (.t rfl) (.t rfl) oQ) (LW.A rfl (LW.nil (KW.inBlock (KW.then (CW.region (LW.pp (.inc (.t rfl) oQ) (LW.M rfl (LW.nil (KW.round ?_)))))))))))))
   exact ⟨(k + 1, some k), ⟨⟨by omega, fun j e => (by cases e; omega), by rw [hnew]; exact hx⟩, hE, hB3, hW⟩, ⟨rfl, rfl, rfl, rfl, rfl, rfl, rfl, trivial⟩, by omega⟩
  replace h45 := dQ h45
  have hnew : Eh (b.Lots.take (k + 1)) wafer time = some y := by rw [Ar hx, Gj, hby]; exact if_neg (by simpa [G7, Np] using h45)
  refine CW.skip (KW.inBlock (KW.then (CW.region (LW.pp (.inc (.t rfl) oQ) (LW.M rfl (LW.nil (KW.round ?_)))))))
  exact ⟨(k + 1, some j), ⟨⟨by omega, fun i e => (by cases e; have := hj j rfl; omega), by rw [hnew]; exact hy⟩, hE, hB3, hW⟩, ⟨rfl, rfl, rfl, rfl, rfl, rfl, rfl, trivial⟩, by dsimp only; omega⟩
 replace h15 := dQ h15
 have hkk : k = b.Lots.length := by omega
 subst hkk
 rw [List.take_length] at hby
 have hres : D6 b.Lots wafer time = (y.Lot, y.Product) := by unfold D6; rw [hby]
 refine CW.exit (Aa (Aa (Ad (KW.then (CW.seq (CW.S (LW.M rfl (LW.pp (.N9 underlying165 (.t rfl)) (LW.T (CW.cond_false (.t rfl) (CW.skip (KW.then (CW.seq (Ch kQ kQ rfl rfl (HW.pp (.move (.t rfl)) (HW.pp (.nilCheck (.t rfl)) (HW.pp (.fA 9 underlying36 rfl sizeOf3 rfl) (HW.pp (.ld isAgg3 rfl (hyc.nth (j := 9) rfl)) (HW.pp (.move (.t rfl)) (HW.pp (.nilCheck (.t rfl)) (HW.pp (.fA 10 underlying36 rfl sizeOf3 rfl) (HW.pp (.ld isAgg3 rfl (hyc.nth (j := 10) rfl)) (HW.pp (.assign (.t rfl)) (HW.pp (.assign (.t rfl)) (HW.nil ?_)))))))))))))))))))))))))
 intro w9 uw9
 replace hE := hE.up uw9
 replace hB3 := hB3.up uw9
 replace hW := hW.up uw9
 replace hyc := hyc.up uw9
 refine KW.then (CW.ret (Ge rfl rfl rfl ⟨_, rfl, ?_⟩))
 exact ⟨by rw [hres] <;> rfl, hW⟩
theorem dJ (bc : Array Go.Value) (bs : Base) (mark time : Int) (w : World) (hC : BaseC w bc bs) (hl : bs.Swaps.length ≤ 1000000000) : Ret Tryz.prog 28 #[.agg bc, vi mark, vi time] w fun r w' => r = vi (Iy bs.Swaps time mark) ∧ Up w w' := by
 have hW := Up.refl w
 refine cS (n := 15) (m := 9) func28 rfl rfl rfl (CW.S (Ah (.C7 (.t rfl)) rfl ?_))
 rintro _ w1 ⟨B3, rfl, NB3⟩
 replace hC := hC.up NB3.up
 replace hW := hW.up NB3.up
 have hB3 := NB3.blk
 refine LW.C (LW.S (CW.S (LW.M rfl (LW.K (eC (.o rfl) (fB)) rfl (Jh _ _) ?_))))
 rintro _ w2 ⟨rfl, uw2⟩
 replace hC := hC.up uw2
 replace hW := hW.up uw2
 replace hB3 := hB3.up uw2
 refine LW.pp (.not (.t rfl)) (LW.T (CW.cond (.t rfl) (fun h9 => ?_) (fun h9 => ?_)))
 ·have hi : Cu mark = false := by simpa using h9
  refine CW.S (LW.C (LW.T (CW.ret (Af (Ae rfl rfl ⟨_, rfl, ?_⟩)))))
  exact ⟨by rw [Iy, if_neg (by rw [hi]; decide)], hW⟩
 have hi : Cu mark = true := by simpa using h9
 refine CW.skip (KW.then (CW.S (LW.pp (.Ee isAgg38 sizeOf38 (hC.size) (.t rfl) (hB3.agg)) (LW.M rfl (LW.K (eC (.u rfl rfl) (BR)) rfl (uM bc bs time _ hC hl) ?_)))))
 rintro _ w3 ⟨b, rfl, hM, zM, uw3⟩
 replace hC := hC.up uw3
 replace hW := hW.up uw3
 replace hB3 := hB3.up uw3
 refine LW.M rfl (LW.K (eC (.u rfl rfl) (tC)) rfl (U8 b _ mark _ hM) ?_)
 rintro _ w4 ⟨rfl, uw4⟩
 replace hC := hC.up uw4
 replace hW := hW.up uw4
 replace hB3 := hB3.up uw4
 replace hM := hM.up uw4
 refine LW.A rfl (LW.T (CW.ret (Ae rfl rfl ⟨_, rfl, ?_⟩)))
 exact ⟨by rw [Iy, if_pos hi], hW⟩
end Go.Proofs.YtmimclgihlhaeaaGreat
end
section
namespace Go.Wx
open Go.RowKit Go.MapKept
section
variable {P : Program} {n : Nat} {ds : List Deferred} {l : Env} {w : World} {d : Option Tmp} {ty : TypeId} {ps : String} {af : Array Edge} {g : Option (Nat × Bool)}
theorem Oo {α β : Type} (f : α → β) : ∀ (l : List α) (j : Nat), (l.eraseIdx j).map f = (l.map f).eraseIdx j
 | [], _ => rfl
 | _ :: _, 0 => rfl
 | a :: l, j + 1 => by rw [List.eraseIdx_cons_succ, List.map_cons, Oo f l j, List.map_cons, List.eraseIdx_cons_succ]
theorem aG {kv : List (Int × Value)} {k : Int} {j : Nat} (hn : (kv.map (·.1)).Nodup) {p : Int × Value} (hj : kv[j]? = some p) (hk : p.1 = k) : kv.filter (fun p => !decide (p.1 = k)) = kv.eraseIdx j := by
 refine Go.ChangeMaps.filter_eq_eraseIdx (fun p : Int × Value => decide (p.1 = k)) kv j p hj (decide_eq_true hk) ?_
 have h := List.pairwise_map.1 hn
 exact h.imp fun {a b} hab hh => hab ((of_decide_eq_true hh.1).trans (of_decide_eq_true hh.2).symm)
theorem Xw {T K E : TypeId} {m x : Operand} {b r : Nat} {k : Int} {kv : List (Int × Value)} {done : List Int} (hT : P.underlying T = some (.map K E)) (hK : P.underlying K = some (.int .i64)) (hm : Val l m (.map (some b))) (hx : Val l x (vi k)) (h : IRng w b r kv (done ++ [k])) :
   REv P n ds l w ⟨d, .call { callee := .builtin .delete, args := #[m, x], argTypes := #[T, K] }, ty, ps, af, g⟩ (fun _ w' => IRng w' b r (kv.filter fun p => !decide (p.1 = k)) done ∧ Sto b w w' ∧ w'.heap.size = w.heap.size) := fun a ha => by
 obtain ⟨es, clock, since, seen, c0, hb, hs, he, hr, hold, hsc, hsk, hd, hdn, hdk⟩ := h
 have hne : b ≠ r := fun e => by rw [e, hr] at hb; cases hb
 have hk : IsKey (.int .i64) (vi k) := rfl
 have hkm : k ∈ kv.map (·.1) := hdk k (by simp)
 have hkn : (kv.map (·.1)).Nodup := Ez hs he
 rcases findNow_spec hk es.toList 0 (Fj he) with ⟨h1, h2⟩ | ⟨j, e, h1, h2, h3⟩
 · exfalso
   obtain ⟨p, hp, hpk⟩ := List.mem_map.1 hkm
   obtain ⟨x', hx', L0, _⟩ := C5 he hp
   exact h2 x' hx' (by rw [L0, hpk])
 have hjs : j < es.size := by have := (List.getElem?_eq_some_iff.1 h2).1; simpa using this
 have hsub : (es.eraseIdxIfInBounds j).toList = es.toList.eraseIdx j := by
   unfold Array.eraseIdxIfInBounds
   rw [dif_pos hjs]
   simp
 obtain ⟨p, hp, hpk⟩ : ∃ p, kv[j]? = some p ∧ p.1 = k := by
   have h4 : (es.toList.map Dx)[j]? = some (Dx e) := by rw [List.getElem?_map, h2]; rfl
   rw [he, List.getElem?_map] at h4
   cases hkj : kv[j]? with
   | none => rw [hkj] at h4; cases h4
   | some p =>
     rw [hkj] at h4
     refine ⟨p, rfl, ?_⟩
     have h5 : Ha p = Dx e := by simpa using h4
     have h6 : vi p.1 = e.key := congrArg Prod.fst h5
     exact Qj (h6.trans h3)
 have hf := aG hkn hp hpk
 have he' : (es.eraseIdxIfInBounds j).toList.map Dx = (kv.filter fun p => !decide (p.1 = k)).map Ha := by
   rw [hsub, hf, Oo, he, ← Oo]
 have hset := heap_set (o' := .map (es.eraseIdxIfInBounds j) clock) hb
 refine ⟨.tuple #[], { w with heap := w.heap.setIfInBounds b (.map (es.eraseIdxIfInBounds j) clock) }, ?_, ⟨_, clock, since, seen, c0, hset.1, stamped_erase hs j, he', (hset.2 r (Ne.symm hne)).trans hr, fun x hx => hold x ?_, hsc, hsk, fun x hx k' hk' => ?_, ?_, fun k' hk' => ?_⟩, ⟨rfl, rfl, rfl, by simp, fun i _ hi => hset.2 i hi⟩, by simp⟩
 · simp [execOp, resolve, invoke, builtin, ha.ev hm, ha.ev hx, Builtin.delete_, run_underlying hT, MapKept.run_getObj_map hb, MapKept.run_checkKey hK hk, MapKept.run_findKey hK h1, MapKept.run_setObj_map _ hb, Result.andThen]
 · rw [hsub] at hx
   exact (List.eraseIdx_sublist _ _).subset hx
 · have hx0 := hx
   rw [hsub] at hx
   rw [hd x ((List.eraseIdx_sublist _ _).subset hx) k' hk']
   obtain ⟨k'', e1, e2⟩ := E4 he' x hx0
   have e3 : k' = k'' := Qj (hk'.symm.trans e1)
   have e4 := (List.mem_filter.1 e2).2
   have e5 : k' ≠ k := fun e => by rw [← e3, e] at e4; simp at e4
   simp [e5]
 · exact (List.nodup_append.1 hdn).1
 have h6 := hdk k' (by simp [hk'])
 obtain ⟨q, hq, hqk⟩ := List.mem_map.1 h6
 refine List.mem_map.2 ⟨q, List.mem_filter.2 ⟨hq, ?_⟩, hqk⟩
 have : q.1 ≠ k := fun e => (List.nodup_append.1 hdn).2.2 k' hk' k (by simp) (by rw [← hqk, e])
 simp [this]
end
theorem qY {b r : Nat} {kv kv' : List (Int × Value)} {done done' : List Int} {w w' : World} (h : IRng w' b r kv' done') (k : Sto b w w') : Stp (Fq b r kv done) (Fq b r kv' done') w w' := ⟨k.fr.mono fun _ h => .inl h, h, fun _ h => .inl h⟩
theorem Jy {b : Nat} {kv kv' : List (Int × Value)} {w w' : World} (h : IMap w' b kv') (k : Sto b w w') : Stp (Cf b kv) (Cf b kv') w w' := ⟨k.fr, h, fun _ h => .inl h⟩
theorem aH {b r : Nat} {kv : List (Int × Value)} {done : List Int} {w : World} (h : IRng w b r kv done) : Stp (Fq b r kv done) (Cf b kv) w w := ⟨Fr.refl _ _, h.map, fun _ e => .inl (.inl e)⟩
end Go.Wx
end
