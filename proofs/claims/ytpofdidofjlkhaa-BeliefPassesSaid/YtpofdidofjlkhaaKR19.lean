import Derived.Test.YtpofdidofjlkhaaKR18
import GoSem.Extern.MapsClone
section
namespace Go.Wx.Mk
open Go.RowKit Go.MapKept Go.Wx
variable {κ : Type} {Q : KT κ}
def aIMap (Q : KT κ) (b : Nat) (kv : List (κ × Value)) : Asr := ⟨(· = b), fun w => IMap Q w b kv, fun _ _ h k _ => by
 have := h.lt
 obtain ⟨es, clock, h1, h2⟩ := h
 exact ⟨es, clock, (k b rfl this).trans h1, h2⟩, fun _ h _ e => by rw [e]; exact h.lt⟩
def aIRng (Q : KT κ) (b r : Nat) (kv : List (κ × Value)) (done : List κ) : Asr := ⟨fun i => i = b ∨ i = r, fun w => IRng Q w b r kv done, fun _ _ h k _ => by
 obtain ⟨es, clock, since, seen, c0, h1, h2, h3, h4, h5⟩ := h
 exact ⟨es, clock, since, seen, c0, (k b (.inl rfl) (lt_of_block h1)).trans h1, h2, h3, (k r (.inr rfl) (lt_of_block h4)).trans h4, h5⟩, fun _ h i e => by
 obtain ⟨es, clock, since, seen, c0, h1, h2, h3, h4, h5⟩ := h
 rcases e with rfl | rfl
 · exact lt_of_block h1
 exact lt_of_block h4⟩
theorem stp_set {b : Nat} {kv kv' : List (κ × Value)} {w w' : World} (h : IMap Q w' b kv') (k : Sto b w w') : Stp (aIMap Q b kv) (aIMap Q b kv') w w' := ⟨k.fr, h, fun _ h => .inl h⟩
theorem stp_range {b r : Nat} {kv : List (κ × Value)} {w w' : World} (h : IRng Q w' b r kv []) (u : Up w w') (hr : r = w.heap.size) : Stp (aIMap Q b kv) (aIRng Q b r kv []) w w' := ⟨u.fr _, h, fun i hi => hi.elim (fun e => .inl e) (fun e => .inr oQ)⟩
theorem stp_next {P : Program} {b r : Nat} {kv : List (κ × Value)} {done : List κ} {k : κ} {u : Value} {w w' : World} (h : NextTo Q P w w' b r kv done k u) : Stp (aIRng Q b r kv done) (aIRng Q b r kv (done ++ [k])) w w' := ⟨h.sto.fr.mono (fun i (e : i = r) => .inr e), h.rng, fun _ h => .inl h⟩
theorem stp_rng {b r : Nat} {kv kv' : List (κ × Value)} {done done' : List κ} {w w' : World} (h : IRng Q w' b r kv' done') (k : Sto b w w') : Stp (aIRng Q b r kv done) (aIRng Q b r kv' done') w w' := ⟨k.fr.mono fun _ h => .inl h, h, fun _ h => .inl h⟩
theorem stp_rngEnd {b r : Nat} {kv : List (κ × Value)} {done : List κ} {w : World} (h : IRng Q w b r kv done) : Stp (aIRng Q b r kv done) (aIMap Q b kv) w w := ⟨Fr.refl _ _, h.map, fun _ e => .inl (.inl e)⟩
section
variable {P : Program} {n : Nat} {ds : List Deferred} {l : Env} {w : World} {d : Option Tmp} {ty : TypeId} {ps : String} {af : Array Edge} {g : Option (Nat × Bool)}
theorem PEv.lenM {T K E : TypeId} {x : Operand} {b : Nat} {kv : List (κ × Value)} (hT : P.underlying T = some (.map K E)) (hx : Val l x (.map (some b))) (h : IMap Q w b kv) : PEv P n ds l w ⟨d, .call { callee := .builtin .len, args := #[x], argTypes := #[T] }, ty, ps, af, g⟩ (vi (kv.length : Int)) := fun a w' ha hu => by
 obtain ⟨es, clock, hb, hs, he, ho⟩ := h.up hu
 have hl : es.size = kv.length := by
   have := congrArg List.length he
   simpa using this
 rw [BigFrame.execOp_builtin, BigFrame.builtin_len]
 refine run_v ?_
 simp [Builtin.len_, run_underlying hT, MapKept.run_getObj_map hb, Sem.run_bind, Result.andThen, goInt, ha.ev hx, hl]
theorem kvI_filter [DecidableEq κ] {kv : List (κ × Value)} {k : κ} {j : Nat} (hn : (kv.map (·.1)).Nodup) {p : κ × Value} (hj : kv[j]? = some p) (hk : p.1 = k) : kv.filter (fun p => !decide (p.1 = k)) = kv.eraseIdx j := by
 refine Go.ChangeMaps.filter_eq_eraseIdx (fun p : κ × Value => decide (p.1 = k)) kv j p hj (decide_eq_true hk) ?_
 have h := List.pairwise_map.1 hn
 exact h.imp fun {a b} hab hh => hab ((of_decide_eq_true hh.1).trans (of_decide_eq_true hh.2).symm)
theorem REv.deleteR [DecidableEq κ] {T K E : TypeId} {m x : Operand} {b r : Nat} {k : κ} {kv : List (κ × Value)} {done : List κ} (hT : P.underlying T = some (.map K E)) (hK : Q.Law P K) (hm : Val l m (.map (some b))) (hx : Val l x (Q.vk k)) (h : IRng Q w b r kv (done ++ [k])) :
   REv P n ds l w ⟨d, .call { callee := .builtin .delete, args := #[m, x], argTypes := #[T, K] }, ty, ps, af, g⟩ (fun _ w' => IRng Q w' b r (kv.filter fun p => !decide (p.1 = k)) done ∧ Sto b w w' ∧ w'.heap.size = w.heap.size) := fun a ha => by
 obtain ⟨es, clock, since, seen, c0, hb, hs, he, hr, hold, hsc, hsk, hd, hdn, hdk, ho⟩ := h
 have hne : b ≠ r := fun e => by rw [e, hr] at hb; cases hb
 have hkm : k ∈ kv.map (·.1) := hdk k (by simp)
 have hkn : (kv.map (·.1)).Nodup := keys_nodup hs he
 have hko : Q.ok k := by
   obtain ⟨p, hp, hpk⟩ := List.mem_map.1 hkm
   rw [← hpk]; exact ho p hp
 rcases hK.find w hko es.toList (okAll he ho) with ⟨h1, h2⟩ | ⟨j, e, h1, h2, h3⟩
 · exfalso
   obtain ⟨p, hp, hpk⟩ := List.mem_map.1 hkm
   obtain ⟨x', hx', hkx, _⟩ := key_entry he hp
   exact h2 x' hx' (by rw [hkx, hpk])
 have hjs : j < es.size := by have := (List.getElem?_eq_some_iff.1 h2).1; simpa using this
 have hsub : (es.eraseIdxIfInBounds j).toList = es.toList.eraseIdx j := by
   unfold Array.eraseIdxIfInBounds
   rw [dif_pos hjs]
   simp
 obtain ⟨p, hp, hpk⟩ : ∃ p, kv[j]? = some p ∧ p.1 = k := by
   have h4 : (es.toList.map kvOf)[j]? = some (kvOf e) := by rw [List.getElem?_map, h2]; rfl
   rw [he, List.getElem?_map] at h4
   cases hkj : kv[j]? with
   | none => rw [hkj] at h4; cases h4
   | some p =>
     rw [hkj] at h4
     refine ⟨p, rfl, ?_⟩
     have h5 : kvI Q p = kvOf e := by simpa using h4
     have h6 : Q.vk p.1 = e.key := congrArg Prod.fst h5
     exact Q.inj (h6.trans h3)
 have hf := kvI_filter hkn hp hpk
 have he' : (es.eraseIdxIfInBounds j).toList.map kvOf = (kv.filter fun p => !decide (p.1 = k)).map (kvI Q) := by
   rw [hsub, hf, map_erase, he, ← map_erase]
 have hset := heap_set (o' := .map (es.eraseIdxIfInBounds j) clock) hb
 refine ⟨.tuple #[], { w with heap := w.heap.setIfInBounds b (.map (es.eraseIdxIfInBounds j) clock) }, ?_, ⟨_, clock, since, seen, c0, hset.1, stamped_erase hs j, he', (hset.2 r (Ne.symm hne)).trans hr, fun x hx => hold x ?_, hsc, hsk, fun x hx k' hk' => ?_, ?_, fun k' hk' => ?_, fun p hp => ho p (List.mem_filter.1 hp).1⟩, ⟨rfl, rfl, rfl, by simp, fun i _ hi => hset.2 i hi⟩, by simp⟩
 · simp [execOp, resolve, invoke, builtin, ha.ev hm, ha.ev hx, Builtin.delete_, run_underlying hT, MapKept.run_getObj_map hb, hK.check w _ hko, h1, MapKept.run_setObj_map _ hb, Result.andThen]
 · rw [hsub] at hx
   exact (List.eraseIdx_sublist _ _).subset hx
 · have hx0 := hx
   rw [hsub] at hx
   rw [hd x ((List.eraseIdx_sublist _ _).subset hx) k' hk']
   obtain ⟨k'', e1, e2⟩ := keys_int he' x hx0
   have e3 : k' = k'' := Q.inj (hk'.symm.trans e1)
   have e4 := (List.mem_filter.1 e2).2
   have e5 : k' ≠ k := fun e => by rw [← e3, e] at e4; simp at e4
   simp [e5]
 · exact (List.nodup_append.1 hdn).1
 have h6 := hdk k' (by simp [hk'])
 obtain ⟨q, hq, hqk⟩ := List.mem_map.1 h6
 refine List.mem_map.2 ⟨q, List.mem_filter.2 ⟨hq, ?_⟩, hqk⟩
 have : q.1 ≠ k := fun e => (List.nodup_append.1 hdn).2.2 k' hk' k (by simp) (by rw [← hqk, e])
 simp [this]
theorem PEv.mkIface {T : TypeId} {x : Operand} {v : Value} (hT : P.concrete T = true) (hx : Val l x v) : PEv P n ds l w ⟨d, .makeInterface T x, ty, ps, af, g⟩ (.iface T v) := fun a w' ha _ => by
 refine run_v ?_
 rw [ha.ev hx]
 exact run_makeInterface _ T v hT
theorem PEv.assertMap {x : Operand} {T I K E : TypeId} {v : Value} (hT : P.underlying T = some (.map K E)) (hx : Val l x (.iface T v)) : PEv P n ds l w ⟨d, .typeAssert x I T false, ty, ps, af, g⟩ v := fun a w' ha _ => by
 refine run_v ?_
 rw [ha.ev hx]
 simp [Instr.typeAssert, run_underlying hT, Result.andThen]
theorem PEv.eqlMapNil {T T' K E : TypeId} {x : Operand} {p : Option Nat} (hT : P.underlying T = some (.map K E)) (hx : Val l x (.map p)) : PEv P n ds l w ⟨d, .binOp .eql T x (.const (.map none)) T', ty, ps, af, g⟩ (.bool p.isNone) := fun a w' ha _ => by
 refine run_v ?_
 have e1 : a.eval (.const (.map none)) = .map none := rfl
 rw [ha.ev hx, e1, Sem.run_bind]
 have : (eqGuard .eql T x (.const (.map none)) (.map p) (.map none)).run P w' = .ok () w' := by unfold eqGuard; rfl
 rw [this]
 show (binOp .eql T (.map p) (.map none)).run P w' = _
 have h0 : ∀ m : Nat, (Op.equalIn (m + 1) T (.map p) (.map none)).run P w' = .ok p.isNone w' := fun m => by cases p <;> simp [Op.equalIn, run_underlying hT]
 have h1 := h0 9999
 simp only [binOp]
 simp [show Op.equal T (.map p) (.map none) = Op.equalIn (9999 + 1) T (.map p) (.map none) from rfl, h1]
theorem REv.clone {T : TypeId} {f : FuncId} {fn : Func} {x : Operand} {ts : Array TypeId} {b : Nat} {kv : List (κ × Value)} (hf : P.funcs[f]? = some fn) (h1 : (fn.name == "runtime.NumGoroutine") = false) (h2 : fn.body.isNone = true) (h3 : Extern.findNext fn = none) (h4 : Extern.find fn = some Extern.MapsClone.clone) (hx : Val l x (.iface T (.map (some b)))) (h : IMap Q w b kv) :
   REv P n ds l w ⟨d, .call { callee := .value (.func f), args := #[x], argTypes := ts }, ty, ps, af, g⟩ (fun v w' => ∃ b', v = .iface T (.map (some b')) ∧ IMap Q w' b' kv ∧ Up w w' ∧ b' = w.heap.size ∧ w'.heap.size = b' + 1) := fun a ha => by
 obtain ⟨es, clock, hb, hs, he, ho⟩ := h
 refine ⟨.iface T (.map (some w.heap.size)), w.alloc (.map es clock), ?_, _, rfl, ⟨es, clock, (heap_alloc w _).1, hs, he, ho⟩, Up.alloc w _, rfl, by simp⟩
 have e2 : (Extern.MapsClone.clone #[.iface T (.map (some b))]).run P w = .ok (.iface T (.map (some w.heap.size))) (w.alloc (.map es clock)) := by
   have e : Extern.MapsClone.clone #[.iface T (.map (some b))] = (getObj b >>= fun o => match o with
       | .map entries clock => (newObj (.map entries clock) >>= fun n => pure (.iface T (.map (some n))))
       | _ => stuck "maps.clone: a map expected") := rfl
   rw [e]
   simp [MapKept.run_getObj_map hb, Result.andThen, go_sem]
 have e : a.eval (.func f) = .func (.func f) #[] #[] := rfl
 have e1 : (#[x] : Array Operand).map a.eval = #[.iface T (.map (some b))] := by simp [ha.ev hx]
 simp only [execOp, resolve, e, e1, Deferred.ofValue, Sem.run_bind, Sem.run_pure, Result.andThen, invoke]
 have := run_callFunc_extern (args := #[.iface T (.map (some b))]) (w := w) hf h1 h2 h3 h4
 rw [show (#[] ++ #[Value.iface T (.map (some b))] ++ #[] : Array Value) = #[.iface T (.map (some b))] from rfl, this, e2]
 rfl
end
end Go.Wx.Mk
end
