import Derived.Test.YtgjogglfnkgapaaGreatDoorKR116
import Derived.DeepKeys4
namespace Go.Wx
structure Grp where
 t : Int
 c : Int
 r : Int
deriving DecidableEq
def Grp.cells (g : Grp) : Array Go.Value := #[vi g.t, vi g.c, vi g.r]
theorem Grp.one (g : Grp) : g.cells.all (·.oneCell') = true := by simp [Grp.cells, Value.oneCell']
def Grp.ok (g : Grp) : Prop := J1 g.t ∧ J1 g.c ∧ J1 g.r
def Ca : Mk.KT Grp where
 vk g := .agg g.cells
 ok g := g.ok
 inj {a b} h := by
   obtain ⟨a1, a2, a3⟩ := a
   obtain ⟨b1, b2, b3⟩ := b
   simp only [Grp.cells, Value.agg.injEq, Array.mk.injEq, List.cons.injEq, Value.int.injEq, true_and, and_true] at h
   obtain ⟨rfl, rfl, rfl⟩ := h
   rfl
def Ig (f : Fact) : Grp := ⟨f.Tool, f.Chamber, f.Recipe⟩
def cY (a b : Grp) : Bool := (a.t == b.t) && ((a.c == b.c) && ((a.r == b.r) && true))
theorem kZ (a b : Grp) : cY a b = decide (a = b) := by
 obtain ⟨a1, a2, a3⟩ := a
 obtain ⟨b1, b2, b3⟩ := b
 unfold cY
 rw [Bool.eq_iff_iff]
 simp
theorem yI (k : Int) : (k = 1 ∨ k = 2 ∨ k = 9 ∨ k = 10) ∨ (k ≠ 1 ∧ k ≠ 2 ∧ k ≠ 9 ∧ k ≠ 10) := by omega
def Jf (s : Grp) : Grp × Value := (s, .agg #[])
def Qw (L : List Grp) (s : Grp) : List Grp := if s ∈ L then L else L ++ [s]
theorem O2 (L : List Grp) : (L.map Jf).map (·.1) = L := by rw [List.map_map]; exact List.map_id _
theorem uU {L : List Grp} {s : Grp} {v : Value} (h : (s, v) ∈ L.map Jf) : s ∈ L ∧ v = .agg #[] := by
 obtain ⟨x, hx, e⟩ := List.mem_map.1 h
 cases e
 exact ⟨hx, rfl⟩
theorem Zu (L : List Grp) (s : Grp) : Mk.Gw (L.map Jf) s (.agg #[]) = (Qw L s).map Jf := by
 unfold Mk.Gw Qw
 rw [O2]
 split
 · rw [List.map_map]
   refine List.map_congr_left fun x _ => ?_
   show (if x = s then (s, Value.agg #[]) else Jf x) = Jf x
   split
   · rename_i e; rw [e]; rfl
   rfl
 rw [List.map_append]; rfl
theorem PEv.uV {P : Program} {n : Nat} {ds : List Deferred} {l : Env} {w : World} {d : Option Tmp} {ty : TypeId} {ps : String} {af : Array Edge} {g : Option (Nat × Bool)} {T K E : TypeId} {mo x : Operand} {b : Nat} {s : Grp} {L : List Grp} (hT : P.underlying T = some (.map K E)) (hK : Ca.Law P K) (hko : s.ok) (hz : ∀ w, (zeroValue E).run P w = .ok (.agg #[]) w) (hm : Val l mo (.map (some b))) (hx : Val l x (.agg s.cells)) (h : Mk.IMap Ca w b (L.map Jf)) :
   PEv P n ds l w ⟨d, .lookup T mo x true, ty, ps, af, g⟩ (.tuple #[.agg #[], .bool (decide (s ∈ L))]) := by
 by_cases hs : s ∈ L
 · rw [decide_eq_true hs]
   exact Mk.PEv.D0 (Q := Ca) (ok := true) (v := .agg #[]) hT hK hko hm hx h (List.mem_map.2 ⟨s, hs, rfl⟩)
 rw [decide_eq_false hs]
 exact Mk.PEv.Gf (Q := Ca) (ok := true) hT hK hko hz hm hx h (by rw [O2]; exact hs)
def EC (bf : Nat) (bc : Array Go.Value) (bd : Nat) (n : Int) : Array Go.Value := #[.map (some bf)] ++ bc ++ #[.map (some bd), vi n]
theorem Nq {bf bd : Nat} {bc : Array Go.Value} {n : Int} (h : bc.size = 11) : (EC bf bc bd n)[12]? = some (.map (some bd)) := by
 unfold EC
 rw [Array.getElem?_append_right (by simp [h])]
 simp [h]
theorem uW {bf bd : Nat} {bc : Array Go.Value} {n : Int} (h : bc.size = 11) : (EC bf bc bd n)[13]? = some (vi n) := by
 unfold EC
 rw [Array.getElem?_append_right (by simp [h])]
 simp [h]
theorem O3 {bf bd : Nat} {bc : Array Go.Value} {n : Int} : (EC bf bc bd n)[0]? = some (.map (some bf)) := by
 unfold EC
 rw [Array.getElem?_append_left (by simp; omega), Array.getElem?_append_left (by simp)]
 rfl
theorem gW {bf bd : Nat} {bc : Array Go.Value} {n : Int} (h : bc.size = 11) : (EC bf bc bd n).size = 14 := by unfold EC; simp [h]
theorem O4 {w : World} {E bf bd : Nat} {bc : Array Go.Value} {n : Int} {T : TypeId} (hE : Blk w E (EC bf bc bd n) T) : AggAt w E 1 bc := fun j v hv => by
 have hj := (Array.getElem?_eq_some_iff.1 hv).1
 refine hE.cell (o := 1 + j) ?_
 unfold EC
 rw [Array.getElem?_append_left (by simp; omega), Array.getElem?_append_right (by simp)]
 simpa using hv
theorem qA {w : World} {E bf bd : Nat} {bc : Array Go.Value} {n : Int} {T : TypeId} (hE : Blk w E (EC bf bc bd n) T) {j : Nat} {v : Go.Value} (hv : bc[j]? = some v) : w.cell? ⟨E, 1 + j, none⟩ = some v := O4 hE j v hv
theorem JW {w : World} {b : Nat} {kv : List (Grp × Go.Value)} (h : Mk.IMap Ca w b kv) {p : Grp × Go.Value} (hp : p ∈ kv) : p.1.ok := by
 obtain ⟨es, clock, h1, h2, h3, ho⟩ := h
 exact ho p hp
theorem Zv (L : List Grp) (s v : Grp) : v ∈ Qw L s ↔ v ∈ L ∨ v = s := by
 unfold Qw
 split
 · rename_i h
   exact ⟨.inl, fun e => e.elim id fun e => e ▸ h⟩
 rw [List.mem_append, List.mem_singleton]
theorem qB {T St V : List Grp} {p : Grp → Bool} {k : Grp} (h : ∀ g, g ∈ T ↔ g ∈ St ∨ (g ∈ V ∧ p g = true)) (hp : p k = true) : ∀ g, g ∈ Qw T k ↔ g ∈ St ∨ (g ∈ V ++ [k] ∧ p g = true) := fun g => by
 rw [Zv, h g, List.mem_append, List.mem_singleton]
 constructor
 · rintro ((h1 | h1) | rfl)
   · exact .inl h1
   · exact .inr ⟨.inl h1.1, h1.2⟩
   exact .inr ⟨.inr rfl, hp⟩
 rintro (h1 | ⟨h1 | rfl, h2⟩)
 · exact .inl (.inl h1)
 · exact .inl (.inr ⟨h1, h2⟩)
 exact .inr rfl
theorem uX {T St V : List Grp} {p : Grp → Bool} {k : Grp} (h : ∀ g, g ∈ T ↔ g ∈ St ∨ (g ∈ V ∧ p g = true)) (hp : p k = false) : ∀ g, g ∈ T ↔ g ∈ St ∨ (g ∈ V ++ [k] ∧ p g = true) := fun g => by
 rw [h g, List.mem_append, List.mem_singleton]
 constructor
 · rintro (h1 | h1)
   · exact .inl h1
   exact .inr ⟨.inl h1.1, h1.2⟩
 rintro (h1 | ⟨h1 | rfl, h2⟩)
 · exact .inl h1
 · exact .inr ⟨h1, h2⟩
 rw [hp] at h2; cases h2
def mB (kb : Base) (f : Fact) (g : Grp) : Bool := (Eo kb f.ID).any fun p => decide (g = Ig p)
theorem qC {kb : Base} {f p : Fact} (h : Eo kb f.ID = some p) (g : Grp) : mB kb f g = decide (g = Ig p) := by unfold mB; rw [h]; rfl
theorem HX {kb : Base} {f : Fact} (h : Eo kb f.ID = none) (g : Grp) : mB kb f g = false := by unfold mB; rw [h]; rfl
theorem lA {St : List Grp} {p : Grp → Bool} {K : List Grp} (h : ∀ g, p g = false) : ∀ g, g ∈ St ↔ g ∈ St ∨ (g ∈ K ∧ p g = true) := fun g => ⟨.inl, fun k => k.elim id fun e => by rw [h g] at e; cases e.2⟩
def Jg (m : Dg) (f : Fact) : Bool := !decide (A7 f = []) && (match Eb m (A7 f) with
 | none => !f.Gone
 | some old => Dp f old && (!old.Gone || !f.Gone))
theorem cZ {f : Fact} (h : A7 f ≠ []) : ¬ (A7 f = [] ∨ 100000 < f.Day) := by
 have := Vt (Gp h)
 exact fun e => e.elim h oQ
theorem I1 {m : Dg} {f : Fact} (h : A7 f = []) : Jg m f = false ∧ Ck 100000 m f = m := ⟨by unfold Jg; rw [decide_eq_true h]; rfl, Hh (.inl h)⟩
theorem Rh {m : Dg} {f old : Fact} (h : A7 f ≠ []) (hg : Eb m (A7 f) = some old) (hp : Dp f old = false) : Jg m f = false ∧ Ck 100000 m f = m := ⟨by unfold Jg; rw [hg]; simp [hp], Sx (cZ h) hg hp⟩
theorem Js {m : Dg} {f : Fact} (h : A7 f ≠ []) (hg : Eb m (A7 f) = none) : Jg m f = !f.Gone ∧ Ck 100000 m f = Hg m (A7 f) f := ⟨by unfold Jg; rw [hg, decide_eq_false h]; rfl, Sv (cZ h) hg⟩
theorem F3 {m : Dg} {f old : Fact} (h : A7 f ≠ []) (hg : Eb m (A7 f) = some old) (hp : Dp f old = true) : Jg m f = (!old.Gone || !f.Gone) ∧ Ck 100000 m f = Hg m (A7 f) f := ⟨by unfold Jg; rw [hg, decide_eq_false h]; simp [hp], Sw (cZ h) hg hp⟩
def AO (f : Fact) : Array Go.Value := #[.agg f.cells]
open Go.RowKit Go.MapKept in
theorem uY {P : Program} {n : Nat} {ds : List Deferred} {l : Env} {w : World} {d : Option Tmp} {ty : TypeId} {ps : String} {af : Array Edge} {g : Option (Nat × Bool)} {T : TypeId} {f : FuncId} {fn : Func} {x : Operand} {ts : Array TypeId} {b : Nat} {kv : List (List UInt8 × Go.Value)} (hf : P.funcs[f]? = some fn) (h1 : (fn.name == "runtime.NumGoroutine") = false) (h2 : fn.body.isNone = true) (h3 : Extern.findNext fn = none) (h4 : Extern.find fn = some Extern.MapsClone.clone) (hx : Val l x (.iface T (.map (some b)))) (h : Ms.IMap w b kv) :
   REv P n ds l w ⟨d, .call { callee := .value (.func f), args := #[x], argTypes := ts }, ty, ps, af, g⟩ (fun v w' => ∃ b', v = .iface T (.map (some b')) ∧ Ms.IMap w' b' kv ∧ Up w w' ∧ b' = w.heap.size ∧ w'.heap.size = b' + 1) := fun a ha => by
 obtain ⟨es, clock, hb, hs, he⟩ := h
 refine ⟨.iface T (.map (some w.heap.size)), w.alloc (.map es clock), ?_, _, rfl, ⟨es, clock, (heap_alloc w _).1, hs, he⟩, Up.alloc w _, rfl, by simp⟩
 have e2 : (Extern.MapsClone.clone #[.iface T (.map (some b))]).run P w = .ok (.iface T (.map (some w.heap.size))) (w.alloc (.map es clock)) := by
   have e : Extern.MapsClone.clone #[.iface T (.map (some b))] = (getObj b >>= fun o => match o with
       | .map entries clock => (newObj (.map entries clock) >>= fun n => pure (.iface T (.map (some n))))
       | _ => stuck "maps.clone: a map expected") := rfl
   rw [e]
   simp [MapKept.run_getObj_map hb, Result.andThen, go_sem]
 have e : a.eval (.func f) = .func (.func f) #[] #[] := rfl
 have e1 : (#[x] : Array Operand).map a.eval = #[.iface T (.map (some b))] := by simp [ha.ev hx]
 simp only [execOp, resolve, e, e1, Deferred.ofValue, Sem.run_bind, Sem.run_pure, Result.andThen, invoke]
 have := run_callFunc_extern (args := #[.iface T (.map (some b))]) (w := w) hf h1 h2 h3 h4
 rw [show (#[] ++ #[Value.iface T (.map (some b))] ++ #[] : Array Value) = #[.iface T (.map (some b))] from rfl, this, e2]
 rfl
theorem uZ {l m : List Fact} {d d' : Int} (h : ∀ f, Mw l d f ↔ Mw m d' f) : D5 l d = D5 m d' := by
 have hp : (Fs (Az l d)).Perm (Fs (Az m d')) := H2 (K4 l d) (K4 m d') fun x => by rw [Lo, Lo, h]
 have hm := (Ke m d').ok
 have hn := Hi m d'
 unfold D5 Vp
 rw [Dh hm hn hp [1] 0 cQ, Dh hm hn hp [2] 1 cQ, Dh hm hn hp [3] 2 cQ, Dh hm hn hp [4] 3 cQ, Dh hm hn hp [5] 4 cQ, Dh hm hn hp [6] 5 cQ, Dh hm hn hp [7] 6 cQ, Dh hm hn hp [8] 7 cQ, Dh hm hn hp [9] 8 cQ, Dh hm hn hp [10] 9 cQ, Dh hm hn hp [11] 10 (by decide)]
theorem lB {ks all : List Fact} {d : Int} (h : ks.Perm (Fs (Az all d))) : D5 ks d = D5 all d := by
 refine uZ fun f => ?_
 have hm : ∀ g, g ∈ ks ↔ Mw all d g := fun g => by rw [h.mem_iff, Lo]
 unfold Mw
 rw [hm f]
 constructor
 · exact fun e => e.1
 intro e
 have e0 : Mw all d f := e
 exact ⟨e0, e0.2.1, e0.2.2.1, fun g hg hd => e0.2.2.2 g ((hm g).1 hg).1 hd⟩
def Qx (p : Grp → Bool) (kv : List (Grp × Go.Value)) (V : List Grp) : List (Grp × Go.Value) := kv.filter fun q => p q.1 || !decide (q.1 ∈ V)
theorem qD (p : Grp → Bool) (kv : List (Grp × Go.Value)) : Qx p kv [] = kv := List.filter_eq_self.2 fun k _ => by simp
theorem qE {p : Grp → Bool} (kv : List (Grp × Go.Value)) (V : List Grp) {k : Grp} (h : p k = true) : Qx p kv (V ++ [k]) = Qx p kv V := by
 refine List.filter_congr fun x _ => ?_
 by_cases e : x.1 = k
 · rw [e, h]; rfl
 simp [e]
theorem vA {p : Grp → Bool} (kv : List (Grp × Go.Value)) (V : List Grp) {k : Grp} (h : p k = false) : Qx p kv (V ++ [k]) = (Qx p kv V).filter fun q => !decide (q.1 = k) := by
 rw [Qx, Qx, List.filter_filter]
 refine List.filter_congr fun x _ => ?_
 by_cases e : x.1 = k
 · simp [e, h]
 simp [e]
theorem vB {p : Grp → Bool} (V : List Grp) {k : Grp} (h : p k = true) : (V ++ [k]).filter p = V.filter p ++ [k] := by rw [List.filter_append]; simp [h]
theorem AP {p : Grp → Bool} (V : List Grp) {k : Grp} (h : p k = false) : (V ++ [k]).filter p = V.filter p := by rw [List.filter_append]; simp [h]
theorem dA {p : Grp → Bool} {kv : List (Grp × Go.Value)} {V : List Grp} {k : Grp} {u : Go.Value} (h : (k, u) ∈ Qx p kv V) (hf : k ∉ V.filter p) : k ∉ V ∧ (k, u) ∈ kv := by
 obtain ⟨h1, h2⟩ := List.mem_filter.1 h
 refine ⟨fun hV => ?_, h1⟩
 cases hi : p k with
 | true => exact hf (List.mem_filter.2 ⟨hV, hi⟩)
 | false => dsimp only at h2; rw [hi] at h2; simp [hV] at h2
theorem qF {p : Grp → Bool} {kv : List (Grp × Go.Value)} {V : List Grp} (h : (V.filter p).Perm ((Qx p kv V).map (·.1))) : Qx p kv V = kv.filter fun q => p q.1 := by
 refine List.filter_congr fun q hq => ?_
 cases hi : p q.1 with
 | true => rfl
 | false =>
   cases hc : decide (q.1 ∈ V) with
   | true => rfl
   | false =>
     exfalso
     have h1 : q ∈ Qx p kv V := List.mem_filter.2 ⟨hq, by rw [hc]; simp⟩
     have := (List.mem_filter.1 (h.symm.subset (List.mem_map.2 ⟨q, h1, rfl⟩))).2
     rw [hi] at this; cases this
theorem qG {S0 : Nat → Prop} {w0 w : World} {As : List Asr} (h : Wx.Sep S0 w0 w As) {i j : Nat} (hij : i < j) {A B : Asr} (hA : As[i]? = some A) (hB : As[j]? = some B) (b : Nat) (ha : A.foot b) : ¬ B.foot b := F7 h.apart hij hA hB b ha
theorem qH {S : Nat → Prop} {w w' : World} {b : Nat} {kv : List (Grp × Go.Value)} (h : Mk.IMap Ca w b kv) (f : Fr S w w') (hn : ¬ S b) : Mk.IMap Ca w' b kv := (Mk.A4 Ca b kv).keep w w' h (fun i (hi : i = b) hl => f.block i hl (by rw [hi]; exact hn)) f.size
structure DE where
 g : Grp
 v : Go.Value
 L : List DP
def DE.kv (e : DE) : Grp × Go.Value := (e.g, e.v)
def AQ (g : Grp) : DE := ⟨g, .slice none 0 0, []⟩
def Nr (D : List DE) (g : Grp) : List DE := if g ∈ D.map (·.g) then D else D ++ [AQ g]
theorem O5 (D : List DE) : (D.map DE.kv).map (·.1) = D.map (·.g) := by rw [List.map_map]; rfl
theorem lC {D : List DE} {g : Grp} (h : g ∉ D.map (·.g)) : Mk.Gw (D.map DE.kv) g (.slice none 0 0) = (Nr D g).map DE.kv := by
 unfold Mk.Gw Nr
 rw [O5, if_neg h, if_neg h, List.map_append]
 rfl
theorem qI {D : List DE} {g : Grp} (h : g ∈ D.map (·.g)) : Nr D g = D := if_pos h
def G9 (l : List Fact) : List Grp := l.foldl (fun L p => Qw L (Ig p)) []
def O6 (D : List DE) (l : List Fact) : List DE := l.foldl (fun D p => Nr D (Ig p)) D
theorem To {l : List Fact} {i : Nat} {x : Fact} (h : l[i]? = some x) : G9 (l.take (i + 1)) = Qw (G9 (l.take i)) (Ig x) := by
 unfold G9
 rw [List.take_add_one, h, Option.toList_some, List.foldl_append]
 rfl
theorem V8 {D : List DE} {l : List Fact} {i : Nat} {x : Fact} (h : l[i]? = some x) : O6 D (l.take (i + 1)) = Nr (O6 D (l.take i)) (Ig x) := by
 unfold O6
 rw [List.take_add_one, h, Option.toList_some, List.foldl_append]
 rfl
def O7 (D : List DE) (l : List Fact) : List DE := (O6 D l).filter fun e => decide (e.g ∈ G9 l)
theorem vC (D : List DE) (l : List Fact) : ((O6 D l).map DE.kv).filter (fun q => decide (q.1 ∈ G9 l)) = (O7 D l).map DE.kv := by
 unfold O7
 rw [List.filter_map]
 rfl
theorem Sl.kept {α : Type} {w w' : World} {v : Go.Value} {k : Nat} {enc : α → Array Go.Value} {xs : List α} (h : Sl w v k enc xs) (hk : ∀ i, v.ownBlock = some i → xs ≠ [] → i < w.heap.size → w'.heap[i]? = w.heap[i]?) : Sl w' v k enc xs := by
 obtain ⟨ad, c, rfl, he⟩ := h
 refine ⟨ad, c, rfl, fun i x hx => ?_⟩
 obtain ⟨B, o, e, ha⟩ := he i x hx
 refine ⟨B, o, e, fun j v hv => ?_⟩
 have hc := ha j v hv
 have hl : B < w.heap.size := block_lt_of_cell hc
 have hb := hk B (by rw [e]; rfl) (fun e => by rw [e] at hx; simp at hx) hl
 unfold World.cell? at hc ⊢
 rw [hb]; exact hc
def gX (bc : Array Go.Value) (b : Base) (i : Nat) : Prop := ∃ (j : Nat) (v : Go.Value), bc[j]? = some v ∧ v.ownBlock = some i ∧ Ef b j ≠ []
theorem BaseC.kept {w w' : World} {bc : Array Go.Value} {b : Base} (h : BaseC w bc b) (hk : ∀ i, gX bc b i → i < w.heap.size → w'.heap[i]? = w.heap[i]?) : BaseC w' bc b := by
 obtain ⟨v0, v1, v2, v3, v4, v5, v6, v7, v8, v9, v10, rfl, h0, h1, h2, h3, h4, h5, h6, h7, h8, h9, h10⟩ := h
 exact ⟨v0, v1, v2, v3, v4, v5, v6, v7, v8, v9, v10, rfl, Sl.kept h0 fun i hi hn => hk i ⟨0, v0, rfl, hi, hn⟩, Sl.kept h1 fun i hi hn => hk i ⟨1, v1, rfl, hi, hn⟩, Sl.kept h2 fun i hi hn => hk i ⟨2, v2, rfl, hi, hn⟩, Sl.kept h3 fun i hi hn => hk i ⟨3, v3, rfl, hi, hn⟩, Sl.kept h4 fun i hi hn => hk i ⟨4, v4, rfl, hi, hn⟩, Sl.kept h5 fun i hi hn => hk i ⟨5, v5, rfl, hi, hn⟩, Sl.kept h6 fun i hi hn => hk i ⟨6, v6, rfl, hi, hn⟩, Sl.kept h7 fun i hi hn => hk i ⟨7, v7, rfl, hi, hn⟩, Sl.kept h8 fun i hi hn => hk i ⟨8, v8, rfl, hi, hn⟩, Sl.kept h9 fun i hi hn => hk i ⟨9, v9, rfl, hi, hn⟩, Sl.kept h10 fun i hi hn => hk i ⟨10, v10, rfl, hi, hn⟩⟩
theorem BaseC.KK {w : World} {bc : Array Go.Value} {b : Base} (h : BaseC w bc b) : ∀ i, gX bc b i → i < w.heap.size := by
 rintro i ⟨j, v, hv, hi, hn⟩
 by_cases hj : j < 11
 · obtain ⟨v', hv', ad, c, rfl, he⟩ := h.at_ hj
   rw [hv] at hv'
   cases hv'
   obtain ⟨x, hx⟩ : ∃ x, (Ef b j)[0]? = some x := ⟨_, List.getElem?_eq_getElem (List.length_pos_iff.2 hn)⟩
   obtain ⟨B, o, e, ha⟩ := he 0 x hx
   subst e
   have hB : B = i := Option.some.inj hi
   have hc := ha 0 (vi x.Kind) rfl
   have := block_lt_of_cell hc
   exact hB ▸ this
 exact absurd (Pt b hj) hn
def Gi (bc : Array Go.Value) (b : Base) : Asr := ⟨gX bc b, fun w => BaseC w bc b, fun _ _ h k _ => h.kept k, fun _ h => h.KK⟩
theorem lD {bc : Array Go.Value} {b : Base} {base : Nat} (h : gC base bc) : ∀ i, (Gi bc b).foot i → base ≤ i := fun i ⟨j, v, hv, hi, _⟩ => h j v hv i hi
theorem HY {P : Program} {n : Nat} {ds : List Deferred} {l : Env} {w : World} {d : Option Tmp} {ty : TypeId} {ps : String} {af : Array Edge} {g : Option (Nat × Bool)} {T K E : TypeId} {x : Operand} {b : Nat} {kv : List (List UInt8 × Go.Value)} (hT : P.underlying T = some (.map K E)) (hx : Val l x (.map (some b))) (h : Ms.IMap w b kv) : PEv P n ds l w ⟨d, .call { callee := .builtin .len, args := #[x], argTypes := #[T] }, ty, ps, af, g⟩ (vi (kv.length : Int)) := fun a w' ha hu => by
 obtain ⟨es, clock, hb, hs, he⟩ := h.up hu
 have hl : es.size = kv.length := by
   have := congrArg List.length he
   simpa using this
 rw [BigFrame.execOp_builtin, BigFrame.builtin_len]
 refine Cm ?_
 simp [Builtin.len_, run_underlying hT, MapKept.run_getObj_map hb, Sem.run_bind, Result.andThen, goInt, ha.ev hx, hl]
theorem gY {P : Program} {n : Nat} {ds : List Deferred} {l : Env} {w : World} {d : Option Tmp} {ty : TypeId} {ps : String} {af : Array Edge} {g : Option (Nat × Bool)} {T T' : TypeId} {x : Operand} {v : Go.Value} {b : Bool} {pa ra : Array TypeId} {va : Bool} (hT : P.underlying T = some (.func pa ra va)) (hx : Val l x v) (hv : (v = .nilFunc ∧ b = false) ∨ ∃ f, v = .func f #[] #[] ∧ b = true) : PEv P n ds l w ⟨d, .binOp .neq T x (.const .nilFunc) T', ty, ps, af, g⟩ (.bool b) := fun a w' ha _ => by
 refine Cm ?_
 have e1 : a.eval (.const .nilFunc) = .nilFunc := rfl
 rw [ha.ev hx, e1, Sem.run_bind]
 have : (eqGuard .neq T x (.const .nilFunc) v .nilFunc).run P w' = .ok () w' := by
   unfold eqGuard
   rcases hv with ⟨rfl, rfl⟩ | ⟨f, rfl, rfl⟩ <;> rfl
 rw [this]
 show (binOp .neq T v .nilFunc).run P w' = _
 have h0 : ∀ m : Nat, (Op.equalIn (m + 1) T v .nilFunc).run P w' = .ok (!b) w' := fun m => by
   rcases hv with ⟨rfl, rfl⟩ | ⟨f, rfl, rfl⟩ <;> simp [Op.equalIn, run_underlying hT]
 have h1 := h0 9999
 rcases hv with ⟨rfl, rfl⟩ | ⟨f, rfl, rfl⟩
 · simp only [binOp]
   simp [show Op.equal T Go.Value.nilFunc Go.Value.nilFunc = Op.equalIn (9999 + 1) T Go.Value.nilFunc Go.Value.nilFunc from rfl, h1]
 simp only [binOp]
 simp [show Op.equal T (Go.Value.func f #[] #[]) Go.Value.nilFunc = Op.equalIn (9999 + 1) T (Go.Value.func f #[] #[]) Go.Value.nilFunc from rfl, h1]
theorem Zw {T : TypeId} {w w' : World} {b : Nat} {kv : List (List UInt8 × Go.Value)} (h : Ms.IMap w b kv) (u : KeepT T w w') : Ms.IMap w' b kv := by
 obtain ⟨es, clock, h1, h2⟩ := h
 exact ⟨es, clock, u.obj _ _ h1 (fun _ _ e => by cases e), h2⟩
def lE (k : List UInt8) : List UInt8 × Go.Value := (k, .agg #[])
def dB (L : List (List UInt8)) (k : List UInt8) : List (List UInt8) := if k ∈ L then L else L ++ [k]
theorem Zx (L : List (List UInt8)) : (L.map lE).map (·.1) = L := by rw [List.map_map]; exact List.map_id _
theorem qJ (L : List (List UInt8)) (k : List UInt8) : Ms.Gw (L.map lE) k (.agg #[]) = (dB L k).map lE := by
 unfold Ms.Gw dB
 rw [Zx]
 split
 · rw [List.map_map]
   refine List.map_congr_left fun x _ => ?_
   show (if x = k then (k, Go.Value.agg #[]) else lE x) = lE x
   split
   · rename_i e; rw [e]; rfl
   rfl
 rw [List.map_append]; rfl
def H5 (m : Dg) (k : List UInt8) : Fact := (Eb m k).getD Ee
def Eg (kb : Base) (f : Fact) (g : Grp) : Bool := !f.Gone && (if f.Kind = 1 then decide (g = Ig f) else if f.Kind = 2 then mB kb f g else if f.Kind = 9 then (decide (g.t = f.Tool) && decide (g.c = f.Chamber)) else if f.Kind = 10 then decide (g.r = f.Recipe) else false)
def Qy (s : Dg × List (List UInt8)) (f : Fact) : Dg × List (List UInt8) := (Ck 100000 s.1 f, if Jg s.1 f = true then dB s.2 (A7 f) else s.2)
def Gx (m : Dg) (l : List Fact) : Dg × List (List UInt8) := l.foldl Qy (m, [])
theorem V9 {m : Dg} {l : List Fact} {i : Nat} {x : Fact} (h : l[i]? = some x) : Gx m (l.take (i + 1)) = Qy (Gx m (l.take i)) x := by
 unfold Gx
 rw [List.take_add_one, h, Option.toList_some, List.foldl_append]
 rfl
theorem Zy {s : Dg × List (List UInt8)} {f : Fact} (h : Jg s.1 f = true) : Qy s f = (Ck 100000 s.1 f, dB s.2 (A7 f)) := by unfold Qy; rw [if_pos h]
theorem gZ {s : Dg × List (List UInt8)} {f : Fact} (h : Jg s.1 f = false) : Qy s f = (Ck 100000 s.1 f, s.2) := by unfold Qy; rw [h]; rfl
theorem Tp (all l : List Fact) : (Gx (Az all 100000) l).1 = Az (all ++ l) 100000 := by
 have key : ∀ (l : List Fact) (s : Dg × List (List UInt8)), (l.foldl Qy s).1 = l.foldl (Ck 100000) s.1 := by
   intro l
   induction l with
   | nil => exact fun _ => rfl
   | cons x l ih => exact fun s => ih _
 unfold Gx Az
 rw [key, List.foldl_append]
theorem AR {f : Fact} (h : Bk f = true) : (Ig f).ok := by
 obtain ⟨h1, h2, _⟩ := H3 h
 have key : ∀ o, Fc o = true → J1 (Gn f o) := fun o ho => by
   by_cases e : ∃ x ∈ fieldsOf f.Kind, x.off = o
   · obtain ⟨x, hx, rfl⟩ := e
     have := h2 x hx
     unfold M6 at this
     unfold J1
     omega
   rw [h1 o ho fun x hx e' => e ⟨x, hx, e'⟩]
   exact ⟨by decide, by decide⟩
 exact ⟨key 11 cQ, key 12 cQ, key 14 cQ⟩
theorem Wa (D : List DE) (g v : Grp) : v ∈ (Nr D g).map (·.g) ↔ v ∈ D.map (·.g) ∨ v = g := by
 unfold Nr
 split
 · rename_i h
   exact ⟨.inl, fun e => e.elim id fun e => e ▸ h⟩
 rw [List.map_append, List.mem_append]
 exact or_congr Iff.rfl List.mem_singleton
theorem dC {D : List DE} (h : (D.map (·.g)).Nodup) (g : Grp) : ((Nr D g).map (·.g)).Nodup := by
 unfold Nr
 split
 · exact h
 rename_i hg
 rw [List.map_append]
 exact List.nodup_append.2 ⟨h, by simp, fun a ha c hc => by simp [AQ] at hc; subst hc; exact fun e => hg (e ▸ ha)⟩
theorem lF (l : List Fact) (D : List DE) (v : Grp) : v ∈ (O6 D l).map (·.g) ↔ v ∈ D.map (·.g) ∨ ∃ p ∈ l, Ig p = v := by
 induction l generalizing D with
 | nil => exact ⟨.inl, fun e => e.elim id fun ⟨_, h, _⟩ => (by cases h)⟩
 | cons x l ih =>
   have := ih (Nr D (Ig x))
   rw [Wa] at this
   show v ∈ (O6 (Nr D (Ig x)) l).map (·.g) ↔ _
   rw [this, or_assoc]
   refine or_congr Iff.rfl ⟨?_, ?_⟩
   · rintro (rfl | ⟨p, hp, e⟩)
     · exact ⟨x, List.mem_cons_self, rfl⟩
     exact ⟨p, List.mem_cons_of_mem _ hp, e⟩
   rintro ⟨p, hp, e⟩
   rcases List.mem_cons.1 hp with rfl | hp
   · exact .inl e.symm
   exact .inr ⟨p, hp, e⟩
theorem Mh (l : List Fact) (v : Grp) : v ∈ G9 l ↔ ∃ p ∈ l, Ig p = v := by
 have key : ∀ (l : List Fact) (L : List Grp), v ∈ l.foldl (fun L p => Qw L (Ig p)) L ↔ v ∈ L ∨ ∃ p ∈ l, Ig p = v := by
   intro l
   induction l with
   | nil => exact fun L => ⟨.inl, fun e => e.elim id fun ⟨_, h, _⟩ => (by cases h)⟩
   | cons x l ih =>
     intro L
     rw [List.foldl_cons, ih, Zv, or_assoc]
     refine or_congr Iff.rfl ⟨?_, ?_⟩
     · rintro (rfl | ⟨p, hp, e⟩)
       · exact ⟨x, List.mem_cons_self, rfl⟩
       exact ⟨p, List.mem_cons_of_mem _ hp, e⟩
     rintro ⟨p, hp, e⟩
     rcases List.mem_cons.1 hp with rfl | hp
     · exact .inl e.symm
     exact .inr ⟨p, hp, e⟩
 unfold G9
 rw [key]
 exact ⟨fun e => e.elim (fun h => by cases h) id, .inr⟩
theorem Mi (l : List Fact) (D : List DE) (v : Grp) : v ∈ (O7 D l).map (·.g) ↔ ∃ p ∈ l, Ig p = v := by
 rw [← Mh]
 constructor
 · intro h
   obtain ⟨e, he, rfl⟩ := List.mem_map.1 h
   exact of_decide_eq_true (List.mem_filter.1 he).2
 intro h
 obtain ⟨e, he, rfl⟩ := List.mem_map.1 ((lF l D v).2 (.inr ((Mh l v).1 h)))
 exact List.mem_map.2 ⟨e, List.mem_filter.2 ⟨he, decide_eq_true h⟩, rfl⟩
theorem Tq {D : List DE} (l : List Fact) (h : (D.map (·.g)).Nodup) : ((O7 D l).map (·.g)).Nodup := by
 have key : ∀ (l : List Fact) (D : List DE), (D.map (·.g)).Nodup → ((O6 D l).map (·.g)).Nodup := by
   intro l
   induction l with
   | nil => exact fun _ h => h
   | cons x l ih => exact fun D h => ih _ (dC h _)
 exact (key l D h).sublist (List.filter_sublist.map _)
theorem AS {St : List Grp} {l : List Fact} {D : List DE} (hn : St.Nodup) (h : ∀ g ∈ St, g ∈ (O7 D l).map (·.g)) : St.length ≤ l.length := by
 have := hn.length_le_of_subset (l₂ := l.map Ig) fun g hg => by
   obtain ⟨p, hp, e⟩ := (Mi l D g).1 (h g hg)
   exact List.mem_map.2 ⟨p, hp, e⟩
 rwa [List.length_map] at this
def Qz (m0 m1 : Dg) (kb : Base) (k : List UInt8) (g : Grp) : Bool := !Cz (H5 m0 k) (H5 m1 k) && (Eg kb (H5 m0 k) g || Eg kb (H5 m1 k) g)
theorem AT {bf bd : Nat} {bc bc' : Array Go.Value} {n : Int} (h : bc.size = 11) (h' : bc'.size = 11) : Ly (EC bf bc bd n) 1 bc'.toList = EC bf bc' bd n := by
 obtain ⟨v0, v1, v2, v3, v4, v5, v6, v7, v8, v9, v10, e⟩ := Ip (vs := bc.toList) (by simpa using h)
 obtain ⟨u0, u1, u2, u3, u4, u5, u6, u7, u8, u9, u10, e'⟩ := Ip (vs := bc'.toList) (by simpa using h')
 obtain ⟨l⟩ := bc
 obtain ⟨l'⟩ := bc'
 dsimp only at e e'
 subst e
 subst e'
 rfl
theorem vD {bf bd : Nat} {bc : Array Go.Value} {n x : Int} (h : bc.size = 11) : (EC bf bc bd n).setIfInBounds 13 (vi x) = EC bf bc bd x := by
 obtain ⟨v0, v1, v2, v3, v4, v5, v6, v7, v8, v9, v10, e⟩ := Ip (vs := bc.toList) (by simpa using h)
 obtain ⟨l⟩ := bc
 subst e
 rfl
theorem vE {al : List Fact} {d : Int} : ∀ p ∈ (D5 al d).Processes, (Ig p).ok := fun p hp => by
 have h := (Dc (j := 0) cQ).1 hp
 exact AR (C1 h.1)
theorem vF {w w' : World} {a b : Nat} {ca cb : Array Go.Value} {T : TypeId} (u : Up w w') (ha : Blk w' a ca T) (hb : Blk w' b cb T) (la : w.heap.size ≤ a) (lb : w.heap.size ≤ b) (hne : a ≠ b) : Wx.Sep no w w' [Cc a ca T, Cc b cb T] :=
 ⟨u.fr _, fun A hA => by
   simp only [List.mem_cons, List.mem_nil_iff, or_false] at hA
   rcases hA with rfl | rfl
   · exact ⟨ha, fun i (e : i = a) => .inr oQ⟩
   exact ⟨hb, fun i (e : i = b) => .inr oQ⟩, List.pairwise_pair.2 fun i (e1 : i = a) (e2 : i = b) => hne (e1.symm.trans e2)⟩
theorem lG {D : List DE} {j : Nat} {e : DE} (hj : D[j]? = some e) (hn : (D.map (·.g)).Nodup) (v : Go.Value) (L : List DP) : Mk.Gw (D.map DE.kv) e.g v = (D.set j ⟨e.g, v, L⟩).map DE.kv := by
 have hm : e.g ∈ (D.map DE.kv).map (·.1) := by rw [O5]; exact List.mem_map.2 ⟨e, List.mem_of_getElem? hj, rfl⟩
 unfold Mk.Gw
 rw [if_pos hm]
 apply List.ext_getElem?
 intro i
 rw [List.getElem?_map, List.getElem?_map, List.getElem?_map, List.getElem?_set]
 have hjl := (List.getElem?_eq_some_iff.1 hj).1
 by_cases e1 : j = i
 · subst e1
   rw [if_pos rfl, if_pos hjl, hj]
   show some (if e.g = e.g then (e.g, v) else e.kv) = some (e.g, v)
   rw [if_pos rfl]
 rw [if_neg e1]
 cases hi : D[i]? with
 | none => rfl
 | some f =>
   show some (if f.g = e.g then (e.g, v) else f.kv) = some f.kv
   rw [if_neg fun eg => ?_]
   have h1 : (D.map (·.g))[i]? = some f.g := by rw [List.getElem?_map, hi]; rfl
   have h2 : (D.map (·.g))[j]? = some e.g := by rw [List.getElem?_map, hj]; rfl
   exact e1 ((List.getElem?_inj (by simpa using hjl) hn).1 (by rw [h1, h2, eg]))
theorem vG {T : List (List UInt8)} (h : (((T.map lE).length : Nat) : Int) = 0) : T = [] := List.eq_nil_of_length_eq_zero (by rw [List.length_map] at h; omega)
theorem vH {L : List (List UInt8)} {s : List UInt8} {v : Go.Value} (h : (s, v) ∈ L.map lE) : s ∈ L := by
 obtain ⟨x, hx, e⟩ := List.mem_map.1 h
 cases e
 exact hx
theorem iA {P : List UInt8 → Grp → Bool} {S S1 K : List Grp} {V : List (List UInt8)} {k : List UInt8} (h : ∀ g, g ∈ S ↔ g ∈ K ∧ ∃ k ∈ V, P k g = true) (h1 : ∀ g, g ∈ S1 ↔ g ∈ S ∨ (g ∈ K ∧ P k g = true)) : ∀ g, g ∈ S1 ↔ g ∈ K ∧ ∃ k' ∈ V ++ [k], P k' g = true := fun g => by
 rw [h1 g, h g]
 constructor
 · rintro (⟨hk, q, hq, hp⟩ | ⟨hk, hp⟩)
   · exact ⟨hk, q, List.mem_append_left _ hq, hp⟩
   exact ⟨hk, k, List.mem_append_right _ (List.mem_singleton.2 rfl), hp⟩
 rintro ⟨hk, q, hq, hp⟩
 rcases List.mem_append.1 hq with hq | hq
 · exact .inl ⟨hk, q, hq, hp⟩
 rw [List.mem_singleton.1 hq] at hp; exact .inr ⟨hk, hp⟩
theorem AU {kb : Base} {a b : Fact} {S S1 K : List Grp} (h : ∀ g, g ∈ S1 ↔ g ∈ S ∨ (g ∈ K ∧ (([a, b].take 2).any fun f => Eg kb f g) = true)) (hne : Cz a b = false) : ∀ g, g ∈ S1 ↔ g ∈ S ∨ (g ∈ K ∧ (!Cz a b && (Eg kb a g || Eg kb b g)) = true) := fun g => by
 rw [h g, hne]
 simp
theorem dD {kb : Base} {fs : List Fact} {S S1 S2 K : List Grp} {j : Nat} {x : Fact} (hx : fs[j]? = some x) (h : ∀ g, g ∈ S1 ↔ g ∈ S ∨ (g ∈ K ∧ ((fs.take j).any fun f => Eg kb f g) = true)) (h2 : ∀ g, g ∈ S2 ↔ g ∈ S1 ∨ (g ∈ K ∧ Eg kb x g = true)) : ∀ g, g ∈ S2 ↔ g ∈ S ∨ (g ∈ K ∧ ((fs.take (j + 1)).any fun f => Eg kb f g) = true) := fun g => by
 rw [h2 g, h g, List.take_add_one, hx, List.any_append]
 simp only [Option.toList_some, List.any_cons, List.any_nil, Bool.or_false, Bool.or_eq_true]
 constructor
 · rintro ((h | ⟨h, h'⟩) | ⟨h, h'⟩)
   · exact .inl h
   · exact .inr ⟨h, .inl h'⟩
   exact .inr ⟨h, .inr h'⟩
 rintro (h | ⟨h, h' | h'⟩)
 · exact .inl (.inl h)
 · exact .inl (.inr ⟨h, h'⟩)
 exact .inr ⟨h, h'⟩
theorem Ri {S K : List Grp} {p : Grp → Bool} (h : ∀ g, p g = false) : ∀ g, g ∈ S ↔ g ∈ S ∨ (g ∈ K ∧ p g = true) := fun g => ⟨.inl, fun e => e.elim id fun ⟨_, e⟩ => by rw [h g] at e; cases e⟩
theorem Wb {kb : Base} {f : Fact} (h : f.Gone = true) (g : Grp) : Eg kb f g = false := by unfold Eg; rw [h]; rfl
def dk (kb : Base) (e : DE) : Prop := e.L.map DP.dec = Fj kb e.g.t e.g.c e.g.r
theorem AV {kb : Base} {D D1 : List DE} {V : List Grp} {j : Nat} {e : DE} {v : Go.Value} {L : List DP} (h : ∀ e ∈ D, (e.g ∈ V → dk kb e) ∧ (e.g ∉ V → e ∈ D1)) (hj : D[j]? = some e) (hn : (D.map (·.g)).Nodup) (hL : L.map DP.dec = Fj kb e.g.t e.g.c e.g.r) : ∀ f ∈ D.set j ⟨e.g, v, L⟩, (f.g ∈ V ++ [e.g] → dk kb f) ∧ (f.g ∉ V ++ [e.g] → f ∈ D1) := fun f hf => by
 have hjl := (List.getElem?_eq_some_iff.1 hj).1
 obtain ⟨i, hi⟩ := List.getElem?_of_mem hf
 rw [List.getElem?_set] at hi
 by_cases e1 : j = i
 · subst e1
   rw [if_pos rfl, if_pos hjl] at hi
   cases hi
   exact ⟨fun _ => hL, fun h => absurd (List.mem_append_right _ (List.mem_singleton.2 rfl)) h⟩
 rw [if_neg e1] at hi
 have hfD := List.mem_of_getElem? hi
 have hfe : f.g ≠ e.g := fun eg => by
   have h1 : (D.map (·.g))[i]? = some f.g := by rw [List.getElem?_map, hi]; rfl
   have h2 : (D.map (·.g))[j]? = some e.g := by rw [List.getElem?_map, hj]; rfl
   exact e1 ((List.getElem?_inj (by simpa using hjl) hn).1 (by rw [h1, h2, eg]))
 obtain ⟨a, b⟩ := h f hfD
 refine ⟨fun hm => ?_, fun hm => b fun hV => hm (List.mem_append_left _ hV)⟩
 rcases List.mem_append.1 hm with hm | hm
 · exact a hm
 exact absurd (List.mem_singleton.1 hm) hfe
theorem vI {D D1 : List DE} {k : Grp} (h : D.map (·.g) = D1.map (·.g)) (hk : k ∈ D1.map (·.g)) : ∃ (j : Nat) (e : DE), D[j]? = some e ∧ e.g = k := by
 rw [← h] at hk
 obtain ⟨e, he, hg⟩ := List.mem_map.1 hk
 obtain ⟨j, hj⟩ := List.getElem?_of_mem he
 exact ⟨j, e, hj, hg⟩
theorem vJ {D : List DE} {j : Nat} {e : DE} {v : Go.Value} {L : List DP} (hj : D[j]? = some e) : (D.set j ⟨e.g, v, L⟩).map (·.g) = D.map (·.g) := by
 rw [List.map_set]
 have h2 : (D.map (·.g))[j]? = some e.g := by rw [List.getElem?_map, hj]; rfl
 obtain ⟨hl, e2⟩ := List.getElem?_eq_some_iff.1 h2
 show (D.map (·.g)).set j e.g = _
 rw [← e2]
 exact List.set_getElem_self hl
theorem AX {f g : Fact} (h : Cz f g = true) : f = g := by
 obtain ⟨h1, h2⟩ := gF h
 simp only [Cz, Bool.and_eq_true, beq_iff_eq] at h
 obtain ⟨a0, _, a2, a3, a4, _⟩ := h
 exact Za a0 a2 a3 a4 (Y9 h2) h1
theorem O8 {f g : Fact} : Cz f g = true ↔ f = g := ⟨AX, fun e => by rw [e]; exact Ow g⟩
theorem lH {l : List Fact} {d : Int} {x : Fact} (h : x ∈ (D5 l d).Processes) : Eo (D5 l d) x.ID = some x := by
 unfold Eo
 cases e : (D5 l d).Processes.find? (fun f => decide (f.ID = x.ID)) with
 | none =>
   have := List.find?_eq_none.1 e x h
   simp at this
 | some y =>
   have h2 := List.find?_some e
   have h2 : y.ID = x.ID := of_decide_eq_true h2
   have hy := (Dc (j := 0) cQ).1 (show y ∈ Ef (D5 l d) 0 from List.mem_of_find?_eq_some e)
   have hx := (Dc (j := 0) cQ).1 (show x ∈ Ef (D5 l d) 0 from h)
   rw [Mf hy.1 hx.1 (Gq (k := 1) (C1 hy.1) (C1 hx.1) hy.2.2 hx.2.2 (by show (y.ID, (0 : Int)) = (x.ID, 0); rw [h2]))]
theorem Zz {m : Dg} (hn : (m.map (·.1)).Nodup) {p q : List UInt8 × Fact} (hp : p ∈ m) (hq : q ∈ m) (e : p.1 = q.1) : p = q := by
 obtain ⟨i, hi⟩ := List.getElem?_of_mem hp
 obtain ⟨j, hj⟩ := List.getElem?_of_mem hq
 have h1 : (m.map (·.1))[i]? = some p.1 := by rw [List.getElem?_map, hi]; rfl
 have h2 : (m.map (·.1))[j]? = some q.1 := by rw [List.getElem?_map, hj]; rfl
 have hil := (List.getElem?_eq_some_iff.1 h1).1
 have : i = j := (List.getElem?_inj hil hn).1 (h1.trans ((congrArg some e).trans h2.symm))
 subst this
 rw [hi] at hj
 exact Option.some.inj hj
theorem Lu (m : Dg) (k : List UInt8) (f : Fact) (k' : List UInt8) : Eb (Hg m k f) k' = if k' = k then some f else Eb m k' := by
 have key : ∀ m : Dg, (m.map fun p => if p.1 = k then (k, f) else p).find? (fun p => p.1 == k') = if k' = k then (if k ∈ m.map (·.1) then some (k, f) else none) else m.find? fun p => p.1 == k' := by
   intro m
   induction m with
   | nil => simp
   | cons p m ih =>
     rw [List.map_cons, List.find?_cons, List.find?_cons, ih]
     by_cases h1 : k' = k
     · subst h1
       by_cases h2 : p.1 = k'
       · simp [h2]
       have h5 : (p.1 == k') = false := by simpa using h2
       simp only [if_neg h2, h5]
       have h6 : ¬ k' = p.1 := fun e => h2 e.symm
       simp only [List.map_cons, List.mem_cons, h6, false_or, if_true]
     by_cases h2 : p.1 = k
     · have h3 : (k == k') = false := by simpa using fun e => h1 (Eq.symm e)
       simp [h1, h2, h3]
     simp [h1, h2]
 unfold Eb Hg
 by_cases hk : k ∈ m.map (·.1)
 · rw [if_pos hk, key m]
   split
   · rfl
   rfl
 rw [if_neg hk, List.find?_append]
 by_cases h1 : k' = k
 · subst h1
   have : (m.find? fun p => p.1 == k') = none := List.find?_eq_none.2 fun p hp e => hk (List.mem_map.2 ⟨p, hp, by simpa using e⟩)
   rw [this]; simp
 have h3 : (k == k') = false := by simpa using fun e => h1 (Eq.symm e)
 rw [if_neg h1]
 simp [h3]
def inv (a : Option Fact) : Prop := ∀ x, a = some x → x.Gone = true
def sameV (a b : Option Fact) : Prop := a = b ∨ (inv a ∧ inv b)
theorem sameV.trans {a b c : Option Fact} (h : sameV a b) (k : sameV b c) : sameV a c := by
 rcases h with rfl | ⟨h1, h2⟩
 · exact k
 rcases k with rfl | ⟨_, k2⟩
 · exact .inr ⟨h1, h2⟩
 exact .inr ⟨h1, k2⟩
theorem Wc {m : Dg} {f : Fact} {k : List UInt8} (h : Jg m f = false ∨ k ≠ A7 f) : sameV (Eb m k) (Eb (Ck 100000 m f) k) := by
 by_cases hk0 : A7 f = []
 · rw [(I1 (m := m) hk0).2]; exact .inl rfl
 have hset : ∀ {m' : Dg}, Ck 100000 m f = m' → m' = Hg m (A7 f) f → (Jg m f = false → inv (Eb m (A7 f)) ∧ f.Gone = true) → sameV (Eb m k) (Eb m' k) := fun {m'} e1 e2 h2 => by
   rw [e2, Lu]
   by_cases e : k = A7 f
   · rw [if_pos e, e]
     obtain ⟨h3, h4⟩ := h2 (h.resolve_right fun h => h e)
     exact .inr ⟨h3, fun x hx => by cases hx; exact h4⟩
   rw [if_neg e]; exact .inl rfl
 cases hg : Eb m (A7 f) with
 | none =>
   obtain ⟨h1, h2⟩ := Js hk0 hg
   refine hset rfl h2 fun hc => ⟨fun x hx => (by rw [hg] at hx; cases hx), ?_⟩
   rw [h1] at hc; simpa using hc
 | some old =>
   cases hp : Dp f old with
   | false => rw [(Rh hk0 hg hp).2]; exact .inl rfl
   | true =>
     obtain ⟨h1, h2⟩ := F3 hk0 hg hp
     refine hset rfl h2 fun hc => ?_
     rw [h1, Bool.or_eq_false_iff] at hc
     exact ⟨fun x hx => by rw [hg] at hx; cases hx; simpa using hc.1, by simpa using hc.2⟩
theorem qK (L : List (List UInt8)) (s v : List UInt8) : v ∈ dB L s ↔ v ∈ L ∨ v = s := by
 unfold dB
 split
 · rename_i h
   exact ⟨.inl, fun e => e.elim id fun e => e ▸ h⟩
 rw [List.mem_append, List.mem_singleton]
theorem Wd (m : Dg) (l : List Fact) : ∀ k, k ∉ (Gx m l).2 → sameV (Eb m k) (Eb (Gx m l).1 k) := by
 have key : ∀ (l : List Fact) (s : Dg × List (List UInt8)), (∀ k, k ∉ s.2 → sameV (Eb m k) (Eb s.1 k)) → ∀ k, k ∉ (l.foldl Qy s).2 → sameV (Eb m k) (Eb (l.foldl Qy s).1 k) := by
   intro l
   induction l with
   | nil => exact fun _ h => h
   | cons x l ih =>
     intro s h
     refine ih (Qy s x) fun k hk => ?_
     cases hc : Jg s.1 x with
     | false =>
       rw [gZ hc] at hk ⊢
       exact (h k hk).trans (Wc (.inl hc))
     | true =>
       rw [Zy hc] at hk ⊢
       dsimp only at hk ⊢
       rw [qK, not_or] at hk
       exact (h k hk.1).trans (Wc (.inr hk.2))
 exact key l (m, []) fun _ _ => .inl rfl
theorem Z0 {kb : Base} {m : Dg} {k : List UInt8} (h : inv (Eb m k)) (g : Grp) : Eg kb (H5 m k) g = false := by
 unfold H5
 cases hg : Eb m k with
 | none => rfl
 | some x => exact Wb (h x hg) g
theorem JX {all l : List Fact} {kb : Base} {g : Grp} : (∃ k ∈ (Gx (Az all 100000) l).2, Qz (Az all 100000) (Az (all ++ l) 100000) kb k g = true) ↔ ∃ k, Qz (Az all 100000) (Az (all ++ l) 100000) kb k g = true := by
 refine ⟨fun ⟨k, _, h⟩ => ⟨k, h⟩, fun ⟨k, h⟩ => ⟨k, ?_, h⟩⟩
 by_cases hk : k ∈ (Gx (Az all 100000) l).2
 · exact hk
 exfalso
 have := Wd (Az all 100000) l k hk
 rw [Tp] at this
 unfold Qz at h
 rcases this with e | ⟨h1, h2⟩
 · have e2 : H5 (Az all 100000) k = H5 (Az (all ++ l) 100000) k := by unfold H5; rw [e]
   rw [e2, Ow] at h
   cases h
 rw [Z0 h1, Z0 h2] at h
 simp at h
theorem Mj {l : List Fact} {d : Int} {x : Fact} : Mw l d x ↔ Eb (Az l d) (A7 x) = some x := by
 have hn := Hi l d
 have ho := (Ke l d).ok
 rw [← Lo, Hj ho]
 constructor
 · intro h
   cases hg : Eb (Az l d) (A7 x) with
   | none => exact absurd (by rw [Iy]; exact List.mem_map.2 ⟨_, h, rfl⟩) (Kb hg)
   | some y =>
     have h1 := L6 hg
     obtain ⟨p, hp, e⟩ := List.mem_map.1 h1
     have e1 : p.1 = A7 x := by injection e
     have hxy : p = (A7 x, x) := by
       exact Zz hn hp h e1
     have hy : y = x := by
       unfold Eb at hg
       obtain ⟨q, hq, hqy⟩ := Option.map_eq_some_iff.1 hg
       have hq1 := List.mem_of_find?_eq_some hq
       have hq2 : (q.1 == A7 x) = true := List.find?_some (p := fun p : List UInt8 × Fact => p.1 == A7 x) hq
       have := Zz hn hq1 h (by simpa using hq2)
       rw [← hqy, this]
     rw [hy]
 intro h
 unfold Eb at h
 obtain ⟨q, hq, hqy⟩ := Option.map_eq_some_iff.1 h
 have hq1 := List.mem_of_find?_eq_some hq
 have hq2 : (q.1 == A7 x) = true := List.find?_some (p := fun p : List UInt8 × Fact => p.1 == A7 x) hq
 have : q = (A7 x, x) := Prod.ext (by simpa using hq2) hqy
 rw [← this]; exact hq1
theorem iB {a b : List Fact} {d : Int} {x : Fact} (hx : Mw a d x) (hg : x.Gone = false) (h : ∀ k, sameV (Eb (Az a d) k) (Eb (Az b d) k)) : Mw b d x := by
 have h1 := Mj.1 hx
 rw [Mj]
 rcases h (A7 x) with e | ⟨h2, _⟩
 · rw [← e]; exact h1
 have := h2 x h1
 rw [hg] at this; cases this
theorem sameV.symm {a b : Option Fact} (h : sameV a b) : sameV b a := h.elim (fun e => .inl e.symm) fun ⟨h1, h2⟩ => .inr ⟨h2, h1⟩
theorem vK {l : List Fact} {d : Int} {j : Nat} (hj : j < 11) : ∀ x ∈ Ef (D5 l d) j, ∀ y ∈ Ef (D5 l d) j, J8 ((j + 1 : Nat) : Int) x = J8 ((j + 1 : Nat) : Int) y → x = y := fun x hx y hy e => by
 have hx := (Dc hj).1 hx
 have hy := (Dc hj).1 hy
 exact Mf hx.1 hy.1 (Gq (C1 hx.1) (C1 hy.1) hx.2.2 hy.2.2 e)
theorem Tr {a b : List Fact} {d : Int} {j : Nat} (hj : j < 11) {p q : Fact → Bool} (h : ∀ x, (x ∈ Ef (D5 a d) j ∧ p x = true) ↔ (x ∈ Ef (D5 b d) j ∧ q x = true)) : (Ef (D5 a d) j).filter p = (Ef (D5 b d) j).filter q := by
 refine V1 ((Rg a d hj).sublist List.filter_sublist) ((Rg b d hj).sublist List.filter_sublist) (H2 ((Kg a d hj).sublist List.filter_sublist) ((Kg b d hj).sublist List.filter_sublist) fun x => by rw [List.mem_filter, List.mem_filter]; exact h x) fun x hx y hy e => vK hj x (List.mem_filter.1 hx).1 y (List.mem_filter.1 hy).1 e
theorem vL {a b : List Fact} {d : Int} (h : ∀ k, sameV (Eb (Az a d) k) (Eb (Az b d) k)) {j : Nat} (hj : j < 11) : Ef (D5 a d) j = Ef (D5 b d) j := by
 have := Tr (a := a) (b := b) (d := d) hj (p := fun _ => true) (q := fun _ => true) fun x => by
   rw [Dc hj, Dc hj]
   exact ⟨fun ⟨⟨h1, h2, h3⟩, _⟩ => ⟨⟨iB h1 h2 h, h2, h3⟩, rfl⟩, fun ⟨⟨h1, h2, h3⟩, _⟩ => ⟨⟨iB h1 h2 fun k => (h k).symm, h2, h3⟩, rfl⟩⟩
 rwa [List.filter_eq_self.2 (fun _ _ => rfl), List.filter_eq_self.2 (fun _ _ => rfl)] at this
theorem vM {a b : List Fact} {d : Int} (h : ∀ k, sameV (Eb (Az a d) k) (Eb (Az b d) k)) : D5 a d = D5 b d := by
 have k := fun j (hj : j < 11) => vL h hj
 have e : ∀ x y : Base, (∀ j, j < 11 → Ef x j = Ef y j) → x = y := fun x y hxy => by
   obtain ⟨x0, x1, x2, x3, x4, x5, x6, x7, x8, x9, x10⟩ := x
   obtain ⟨y0, y1, y2, y3, y4, y5, y6, y7, y8, y9, y10⟩ := y
   have g0 : x0 = y0 := hxy 0 cQ
   have g1 : x1 = y1 := hxy 1 cQ
   have g2 : x2 = y2 := hxy 2 cQ
   have g3 : x3 = y3 := hxy 3 cQ
   have g4 : x4 = y4 := hxy 4 cQ
   have g5 : x5 = y5 := hxy 5 cQ
   have g6 : x6 = y6 := hxy 6 cQ
   have g7 : x7 = y7 := hxy 7 cQ
   have g8 : x8 = y8 := hxy 8 cQ
   have g9 : x9 = y9 := hxy 9 cQ
   have g10 : x10 = y10 := hxy 10 cQ
   rw [g0, g1, g2, g3, g4, g5, g6, g7, g8, g9, g10]
 exact e _ _ k
theorem lI {all l : List Fact} (h : (Gx (Az all 100000) l).2 = []) : D5 all 100000 = D5 (all ++ l) 100000 := vM fun k => by
 have := Wd (Az all 100000) l k (by rw [h]; exact fun e => by cases e)
 rwa [Tp] at this
theorem qL {a b : List Fact} {kb : Base} {x : Fact} {g : Grp} (hx : Mw a 100000 x) (hn : ¬ Mw b 100000 x) (hc : Eg kb x g = true) : Qz (Az a 100000) (Az b 100000) kb (A7 x) g = true := by
 have e1 : H5 (Az a 100000) (A7 x) = x := by unfold H5; rw [Mj.1 hx]; rfl
 have e2 : Cz x (H5 (Az b 100000) (A7 x)) = false := by
   cases he : Cz x (H5 (Az b 100000) (A7 x)) with
   | false => rfl
   | true =>
     exfalso
     have e := O8.1 he
     unfold H5 at e
     cases hg : Eb (Az b 100000) (A7 x) with
     | some y => rw [hg] at e; exact hn (Mj.2 (by rw [hg, e]; rfl))
     | none =>
       rw [hg] at e
       have h1 := Es (C1 hx)
       rw [e] at h1
       exact absurd h1.1 cQ
 unfold Qz
 rw [e1, e2, hc]
 rfl
theorem qM (x y : Fact) : Cz x y = Cz y x := by rw [Bool.eq_iff_iff, O8, O8]; exact eq_comm
theorem Z1 (m m' : Dg) (kb : Base) (k : List UInt8) (g : Grp) : Qz m m' kb k g = Qz m' m kb k g := by
 unfold Qz
 rw [qM, Bool.or_comm]
theorem qN {g : Grp} {x : Fact} : p3 g.t g.c g.r x = true ↔ Ig x = g := by
 obtain ⟨t, c, r⟩ := g
 unfold p3 Ig
 simp [and_assoc]
theorem K6 {a b : List Fact} {kb : Base} {g : Grp} (hst : ¬ ∃ k, Qz (Az a 100000) (Az b 100000) kb k g = true) {j : Nat} (hj : j < 11) {p : Fact → Bool} (hp : ∀ x, x.Kind = ((j + 1 : Nat) : Int) → x.Gone = false → p x = true → Eg kb x g = true) : (Ef (D5 a 100000) j).filter p = (Ef (D5 b 100000) j).filter p := by
 refine Tr hj fun x => ?_
 rw [Dc hj, Dc hj]
 constructor
 · rintro ⟨⟨h1, h2, h3⟩, h4⟩
   refine ⟨⟨?_, h2, h3⟩, h4⟩
   by_cases hb : Mw b 100000 x
   · exact hb
   exact absurd ⟨_, qL h1 hb (hp x h3 h2 h4)⟩ hst
 rintro ⟨⟨h1, h2, h3⟩, h4⟩
 refine ⟨⟨?_, h2, h3⟩, h4⟩
 by_cases hb : Mw a 100000 x
 · exact hb
 exact absurd ⟨_, by rw [Z1]; exact qL h1 hb (hp x h3 h2 h4)⟩ hst
theorem Kh {kb : Base} {x : Fact} {g : Grp} (hg : x.Gone = false) : (x.Kind = 1 → Ig x = g → Eg kb x g = true) ∧ (x.Kind = 2 → mB kb x g = true → Eg kb x g = true) ∧ (x.Kind = 9 → Lm g.t g.c x = true → Eg kb x g = true) ∧ (x.Kind = 10 → x.Recipe = g.r → Eg kb x g = true) := by
 unfold Eg
 rw [hg]
 refine ⟨fun h e => ?_, fun h e => ?_, fun h e => ?_, fun h e => ?_⟩
 · rw [if_pos h, decide_eq_true e.symm]; rfl
 · rw [if_neg oQ, if_pos h, e]; rfl
 · rw [if_neg oQ, if_neg oQ, if_pos h]
   unfold Lm at e
   simp only [Bool.and_eq_true, decide_eq_true_eq] at e
   rw [decide_eq_true e.1.symm, decide_eq_true e.2.symm]; rfl
 rw [if_neg oQ, if_neg oQ, if_neg oQ, if_pos h, decide_eq_true e.symm]; rfl
theorem lJ {a b : List Fact} {g : Grp} (hst : ¬ ∃ k, Qz (Az a 100000) (Az b 100000) (D5 b 100000) k g = true) : Fj (D5 a 100000) g.t g.c g.r = Fj (D5 b 100000) g.t g.c g.r := by
 have hP : (D5 a 100000).Processes.filter (p3 g.t g.c g.r) = (D5 b 100000).Processes.filter (p3 g.t g.c g.r) := K6 hst (j := 0) cQ fun x hk hg hp => (Kh hg).1 hk (qN.1 hp)
 have hR : (D5 a 100000).Resets.filter (Lm g.t g.c) = (D5 b 100000).Resets.filter (Lm g.t g.c) := K6 hst (j := 8) cQ fun x hk hg hp => (Kh hg).2.2.1 hk hp
 have hT : (D5 a 100000).Targets.filter (fun f => decide (f.Recipe = g.r)) = (D5 b 100000).Targets.filter (fun f => decide (f.Recipe = g.r)) := K6 hst (j := 9) cQ fun x hk hg hp => (Kh hg).2.2.2 hk (of_decide_eq_true hp)
 have hM : (D5 a 100000).Measures.filter (fun m => BS ((D5 b 100000).Processes.filter (p3 g.t g.c g.r)) m.ID) = (D5 b 100000).Measures.filter (fun m => BS ((D5 b 100000).Processes.filter (p3 g.t g.c g.r)) m.ID) := K6 hst (j := 1) cQ fun x hk hg hp => by
   refine (Kh hg).2.1 hk ?_
   unfold BS at hp
   obtain ⟨y, hy⟩ := Option.isSome_iff_exists.1 hp
   have hy1 := List.mem_of_find?_eq_some hy
   have hy2 : y.ID = x.ID := of_decide_eq_true (List.find?_some (p := fun z : Fact => decide (z.ID = x.ID)) hy)
   obtain ⟨hy3, hy4⟩ := List.mem_filter.1 hy1
   have := lH hy3
   rw [hy2] at this
   rw [qC this, decide_eq_true (qN.1 hy4).symm]
 rw [← V6 (D5 a 100000), ← V6 (D5 b 100000)]
 unfold pO
 rw [hP, hR, hT, hM]
theorem dE {a b : List Fact} {p : Fact} (hp : p ∈ (D5 b 100000).Processes) (hn : ∀ q ∈ (D5 a 100000).Processes, Ig q ≠ Ig p) : ∃ k, Qz (Az a 100000) (Az b 100000) (D5 b 100000) k (Ig p) = true := by
 have h := (Dc (j := 0) cQ).1 hp
 refine ⟨A7 p, ?_⟩
 rw [Z1]
 refine qL h.1 (fun ha => ?_) ((Kh h.2.1).1 h.2.2 rfl)
 have : p ∈ (D5 a 100000).Processes := (Dc (j := 0) cQ).2 ⟨ha, h.2⟩
 exact hn p this rfl
end Go.Wx
namespace Go.Proofs.YtgjogglfnkgapaaGreatDoor
open Go.Proofs.Tryz
open Go.Wx Go.RowKit
theorem qO : laidOutB Tryz.prog = true := by kernel_rfl
theorem AY : (123 : TypeId) < Tryz.prog.types.size := of_decide_eq_true kQ
theorem AZ : Tryz.prog.keyType 123 = true := by kernel_rfl
theorem vN : 3 ≤ Tryz.prog.types.size := of_decide_eq_true kQ
theorem Z2 : Tryz.prog.cellsOf 123 = 3 := by kernel_rfl
theorem qP : Tryz.prog.cellsOf 3 = 1 := by kernel_rfl
theorem dG {i : Int} (h : J1 i) : (Lit.int .i64 i).wf = true := by
 obtain ⟨h1, h2⟩ := h
 have e1 : IntKind.i64.min = -9223372036854775808 := by decide
 have e2 : IntKind.i64.max = 9223372036854775807 := by decide
 show (decide (IntKind.i64.min ≤ i) && decide (i ≤ IntKind.i64.max)) = true
 rw [e1, e2, decide_eq_true h1, decide_eq_true h2]
 rfl
theorem qQ (s : Grp) (h : s.ok) : ∃ l, keyOf Tryz.prog 123 (Ca.vk s) = some l := by
 obtain ⟨l, r, p⟩ := s
 obtain ⟨h1, h2, h3⟩ := h
 have e1 := dG h1
 have e2 := dG h2
 have e3 := dG h3
 obtain ⟨m, hm⟩ : ∃ m, Tryz.prog.types.size + 1 = m + 4 := ⟨Tryz.prog.types.size - 3, by have := vN; omega⟩
 unfold keyOf
 simp only [underlying123]
 rw [if_pos (by simp [AZ, Value.formed, underlying123, Z2, Ca, Grp.cells]), hm]
 simp [Program.keyLits, underlying123, underlying3, Z2, qP, Ca, Grp.cells, Value.cells, e1, e2, e3]
 try rw [if_pos (fun i hi => match i, hi with | 0, _ => by simp | 1, _ => by simp | 2, _ => by simp)]
 try exact ⟨_, rfl⟩
theorem Jz : Ca.Law Tryz.prog 123 := Mk.KT.Law.of (deep_law_laid qO (m := 3) oQ AY kQ (by rw [underlying123])) qQ
set_option maxRecDepth 4000 in
theorem dH (a b : Grp) (w : World) : (Op.equalIn 10000 123 (.agg a.cells) (.agg b.cells)).run Tryz.prog w = .ok (decide (a = b)) w := by
 have hf : Tryz.prog.underlying 123 = some (.struct (Tryz.prog.fieldsOf 123)) := by rw [Program.fieldsOf, underlying123]
 rw [run_equalIn_agg w 9999 123 _ _ hf stoodInHeld123, ← kZ]
 have h : (Op.eqFields 9999 a.cells b.cells (Tryz.prog.fieldsOf 123).toList).run Tryz.prog w = .ok (cY a b) w := by
   rw [Program.fieldsOf, underlying123]
   dsimp only
   iterate 3 (refine Pb cQ isAgg3 rfl rfl (run_equalIn_int w 9998 _ _ _ _ _ underlying3) ?_)
   rfl
 exact h
theorem iC (f : Fact) (w : World) : Ret prog 111 #[.agg f.cells] w fun r w' => r = .agg (Ig f).cells ∧ Up w w' := by
 obtain ⟨w0, rfl, hS⟩ := W0 w
 refine cT 10 func111 rfl (Af (Al (.bA rfl) rfl ?_))
 rintro _ w1 ⟨B1, rfl, NB1⟩
 replace hS := hS.Bn NB1
 refine Al (.Bm zeroValue123) rfl ?_
 rintro _ w2 ⟨B2, rfl, NB2⟩
 replace hS := hS.Bn NB2
 refine Ao (Aa (I (.fB 11 rfl) (I (.lb rfl (hS.b0.Ah rfl)) (I (.fB 12 rfl) (I (.lb rfl (hS.b0.Ah rfl)) (I (.fB 14 rfl) (I (.lb rfl (hS.b0.Ah rfl)) (I (.build (cs := (Ig f).cells) underlying123 zeroValue123 Ld (.ct rfl (.ct rfl (.cu rfl))) rfl) (Be (.Bi sizeOf123 rfl (.t rfl) (.t rfl) (Grp.one _) hS.b1 rfl) ?_)))))))))
 intro w3 Nw3
 replace hS := hS.Cp 1 rfl Nw3
 refine Ai (Ak (E0 rfl rfl isAgg123 sizeOf123 rfl (hS.b1.agg) ⟨_, rfl, ?_⟩))
 exact ⟨rfl, hS.Cr⟩
theorem qR (g : Grp) (Bf : Nat) (f : Fact) (w : World) (hF : Blk w Bf f.cells 28) : Ret prog 231 #[.agg g.cells, .pointer (some ⟨Bf, 0, none⟩)] w fun r w' => r = .bool (decide (g = Ig f)) ∧ Up w w' := by
 have hW := Up.refl w
 refine cT 8 func231 rfl (Af (Al (.bA rfl) rfl ?_))
 rintro _ w1 ⟨B2, rfl, NB2⟩
 replace hF := hF.up NB2.up
 replace hW := hW.up NB2.up
 have hB2 := NB2.blk
 refine Ay (Ao (C5 kQ kQ rfl rfl (U (.lc rfl (hB2.agg)) (U (.lc rfl (hF.agg)) (HW.c (fun a w _ ha => Ci (.cu rfl) (wW) a ha) rfl rfl (fun w hu => iC f w) (U (.mF eqGuardType123 (dH _ _) (.t rfl) (.t rfl)) (U (.assign (.t rfl)) (HW.nil ?_))))))))
 intro w2 uw2
 replace hF := hF.up uw2
 replace hW := hW.up uw2
 replace hB2 := hB2.up uw2
 refine Ac (Ak (KW.q ?_))
 exact ⟨rfl, hW⟩
theorem qS (g : Grp) (Bf : Nat) (f : Fact) (w : World) (hF : Blk w Bf f.cells 28) : Ret prog 232 #[.agg g.cells, .pointer (some ⟨Bf, 0, none⟩)] w fun r w' => r = .bool (decide (g.t = f.Tool) && decide (g.c = f.Chamber)) ∧ Up w w' := by
 have hW := Up.refl w
 refine cT 16 func232 rfl (Af (Al (.bA rfl) rfl ?_))
 rintro _ w1 ⟨B2, rfl, NB2⟩
 replace hF := hF.up NB2.up
 replace hW := hW.up NB2.up
 have hB2 := NB2.blk
 refine Ay (Ao (Aa (I (.fB 0 rfl) (I (.lb rfl (hB2.Ah rfl)) (I (.fB 11 rfl) (I (.lb rfl (hF.Ah rfl)) (I (.eql (.t rfl) (.t rfl)) (Ab rfl (LW.gr rfl (fun hc => PEv.fB 1 rfl) (LW.gr rfl (fun hc => PEv.load isAgg3 vQ (hB2.Ah rfl)) (LW.gr rfl (fun hc => PEv.fB 12 rfl) (LW.gr rfl (fun hc => PEv.load isAgg3 vQ (hF.Ah rfl)) (LW.gr rfl (fun hc => PEv.eql vQ vQ) (I (.pa rfl (fun hp => (by exact .cond rfl (by simp_all)))) (LW.A rfl (Ai (Ak (KW.q ?_))))))))))))))))))
 exact ⟨rfl, hW⟩
theorem qT (g : Grp) (Bf : Nat) (f : Fact) (w : World) (hF : Blk w Bf f.cells 28) : Ret prog 233 #[.agg g.cells, .pointer (some ⟨Bf, 0, none⟩)] w fun r w' => r = .bool (decide (g.r = f.Recipe)) ∧ Up w w' := by
 have hW := Up.refl w
 refine cT 9 func233 rfl (Af (Al (.bA rfl) rfl ?_))
 rintro _ w1 ⟨B2, rfl, NB2⟩
 replace hF := hF.up NB2.up
 replace hW := hW.up NB2.up
 have hB2 := NB2.blk
 refine Ay (Ao (Aa (I (.fB 2 rfl) (I (.lb rfl (hB2.Ah rfl)) (I (.fB 14 rfl) (I (.lb rfl (hF.Ah rfl)) (I (.eql (.t rfl) (.t rfl)) (LW.A rfl (Ai (Ak (KW.q ?_)))))))))))
 exact ⟨rfl, hW⟩
def qU (k : Int) : Go.Value := if k = 1 then .func (.func 114) #[] #[] else if k = 2 then .func (.func 115) #[] #[] else if k = 9 then .func (.func 116) #[] #[] else if k = 10 then .func (.func 117) #[] #[] else .nilFunc
theorem iD {k : Int} (h : k ≠ 1 ∧ k ≠ 2 ∧ k ≠ 9 ∧ k ≠ 10) : qU k = .nilFunc := by
 obtain ⟨h1, h2, h3, h4⟩ := h
 unfold qU
 rw [if_neg h1, if_neg h2, if_neg h3, if_neg h4]
theorem dJ (k : Int) (w : World) : Ret prog 51 #[vi k] w fun r w' => r = qU k ∧ Up w w' := by
 have hW := Up.refl w
 refine cT 7 func51 rfl (Af (Ay (Ao (Aa (LW.r REv.makeMap rfl rfl rfl rfl ?_)))))
 rintro _ w1 ⟨B3, rfl, MB3, uB3, eB3, zB3⟩
 replace hW := hW.up uB3
 have hM3 := MB3
 refine Be (.insert (k := 1) (v := .func (.func 114) #[] #[]) underlying234 underlying3 (.t rfl) (.const _) (.func _) hM3) ?_
 rintro w2 ⟨Mw2, Kw2, zw2⟩
 replace hM3 : IMap w2 B3 [(1, .func (.func 114) #[] #[])] := Mw2
 replace hW := hW.sto Kw2 oQ
 refine Be (.insert (k := 2) (v := .func (.func 115) #[] #[]) underlying234 underlying3 (.t rfl) (.const _) (.func _) hM3) ?_
 rintro w3 ⟨Mw3, Kw3, zw3⟩
 replace hM3 : IMap w3 B3 [(1, .func (.func 114) #[] #[]), (2, .func (.func 115) #[] #[])] := Mw3
 replace hW := hW.sto Kw3 oQ
 refine Be (.insert (k := 9) (v := .func (.func 116) #[] #[]) underlying234 underlying3 (.t rfl) (.const _) (.func _) hM3) ?_
 rintro w4 ⟨Mw4, Kw4, zw4⟩
 replace hM3 : IMap w4 B3 [(1, .func (.func 114) #[] #[]), (2, .func (.func 115) #[] #[]), (9, .func (.func 116) #[] #[])] := Mw4
 replace hW := hW.sto Kw4 oQ
 refine Be (.insert (k := 10) (v := .func (.func 117) #[] #[]) underlying234 underlying3 (.t rfl) (.const _) (.func _) hM3) ?_
 rintro w5 ⟨Mw5, Kw5, zw5⟩
 replace hM3 : IMap w5 B3 [(1, .func (.func 114) #[] #[]), (2, .func (.func 115) #[] #[]), (9, .func (.func 116) #[] #[]), (10, .func (.func 117) #[] #[])] := Mw5
 replace hW := hW.sto Kw5 oQ
 refine Ab rfl (Ab rfl ?_)
 rcases yI k with (rfl | rfl | rfl | rfl) | hkn
 ·skip
  refine I (.D0 (ok := false) (v := .func (.func 114) #[] #[]) underlying234 underlying3 (.t rfl) (.t rfl) hM3 (by simp)) (LW.A rfl (Ai (Ak (KW.q ?_))))
  exact ⟨rfl, hW⟩
 ·skip
  refine I (.D0 (ok := false) (v := .func (.func 115) #[] #[]) underlying234 underlying3 (.t rfl) (.t rfl) hM3 (by simp)) (LW.A rfl (Ai (Ak (KW.q ?_))))
  exact ⟨rfl, hW⟩
 ·skip
  refine I (.D0 (ok := false) (v := .func (.func 116) #[] #[]) underlying234 underlying3 (.t rfl) (.t rfl) hM3 (by simp)) (LW.A rfl (Ai (Ak (KW.q ?_))))
  exact ⟨rfl, hW⟩
 ·skip
  refine I (.D0 (ok := false) (v := .func (.func 117) #[] #[]) underlying234 underlying3 (.t rfl) (.t rfl) hM3 (by simp)) (LW.A rfl (Ai (Ak (KW.q ?_))))
  exact ⟨rfl, hW⟩
 skip
 refine I (.Gf (ok := false) underlying234 underlying3 zeroValue120 (.t rfl) (.t rfl) hM3 (by obtain ⟨h1, h2, h3, h4⟩ := hkn; simp only [List.map_cons, List.map_nil, List.mem_cons, List.not_mem_nil, or_false]; omega)) (LW.A rfl (Ai (Ak (KW.q ?_))))
 exact ⟨(iD hkn).symm, hW⟩
theorem Tt (cf : Nat) (lb : Array Go.Value) (p : Grp → Bool) (hen : ∀ args w, (callFunc cf args).run Tryz.prog w = .ok (.enter cf args) w) (E bf bd bs : Nat) (bc : Array Go.Value) (n : Int) (kv : List (Grp × Go.Value)) (St : List Grp) (w : World) (hE : Blk w E (EC bf bc bd n) 107) (hbc : bc.size = 11) (hEn : ¬ Cu [Mk.A4 Ca bd kv, Mk.A4 Ca bs (List.map Jf St)] E) (hS0 : Wx.Sep (Cu [Mk.A4 Ca bd kv, Mk.A4 Ca bs (List.map Jf St)]) w w [Mk.A4 Ca bd kv, Mk.A4 Ca bs (List.map Jf St)]) (hp : ∀ W, Fr (Cu [Mk.A4 Ca bd kv, Mk.A4 Ca bs (List.map Jf St)]) w W → ∀ g, Ret Tryz.prog cf (#[.agg (Grp.cells g)] ++ lb) W fun r W' => r = .bool (p g) ∧ Up W W') : Ret prog 230 #[.agg #[.pointer (some ⟨E, 0, none⟩), .map (some bs)], .func (.func cf) #[] lb] w fun r w' => ∃ St', r = .tuple #[] ∧ Wx.Sep (Cu [Mk.A4 Ca bd kv, Mk.A4 Ca bs (List.map Jf St)]) w w' [Mk.A4 Ca bd kv, Mk.A4 Ca bs (List.map Jf St')] ∧ ∀ g, g ∈ St' ↔ g ∈ St ∨ (g ∈ kv.map (·.1) ∧ p g = true) := by
 obtain ⟨w0, rfl, _⟩ := W0 w
 have hS := hS0
 refine cT 22 func230 rfl (Af (Al (.bA rfl) rfl ?_))
 rintro _ w1 ⟨B2, rfl, NB2⟩
 replace hS := hS.Bn NB2
 refine Ao (Aa (I (.fB 0 rfl) (I (.lb rfl (hS.b2.Ah rfl)) (I (.nc rfl) (I (.fB 12 rfl) (I (.lb rfl ((hE.T9 hS.fr hEn).cell (Nq hbc))) (Al (Mk.REv.range (Q := Ca) underlying105 (.t rfl) (hS.get 0 rfl)) rfl ?_)))))))
 rintro _ w2 ⟨r10, rfl, hR_, uR, eR, zR⟩
 replace hS := hS.Ez 0 rfl (Mk.Gv hR_ uR eR)
 refine Ai (An (A8 (σ := List Grp × List Grp) (fun s w => (s.1.Nodup ∧ ∀ k ∈ s.1, k ∈ kv.map (·.1)) ∧ (∀ g, g ∈ s.2 ↔ g ∈ St ∨ (g ∈ s.1 ∧ p g = true)) ∧ (Wx.Sep (Cu [Mk.A4 Ca bd kv, Mk.A4 Ca bs (List.map Jf St)]) w0 w [Mk.Fv Ca bd r10 kv s.1, Mk.A4 Ca bs (s.2.map Jf), Cc B2 #[.pointer (some ⟨E, 0, none⟩), .map (some bs)] 119])) (fun s => []) ([(1, .eq _), (2, .eq _), (10, .eq _)]) (fun s => kv.length - s.1.length) ([], St) ?_ tQ ?_))
 ·exact ⟨⟨List.nodup_nil, fun _ h => (by cases h)⟩, fun g => ⟨.inl, fun h => h.elim id (fun h => (by cases h.1))⟩, hS⟩
 rintro ⟨V, T⟩ w3 ⟨hV, hTm, hS⟩
 refine Af (Al (Mk.REv.next (.t rfl) (hS.get 0 rfl)) rfl ?_)
 rintro _ w4 (⟨rfl, rfl, hPm⟩ | ⟨k0, u0, rfl, hNx⟩)
 ·skip
  refine I (.xt rfl rfl) (Ao (CW.f rfl (Bl (Ad (Ad (Aq (C7 rfl ⟨_, rfl, ?_⟩)))))))
  have hS2 := hS.Ez 0 rfl (Mk.Tl (hS.get 0 rfl))
  exact ⟨T, rfl, hS2.take 2, fun g => by rw [hTm g, hPm.mem_iff]⟩
 skip
 have zw4 := hNx.size
 replace hS := hS.Ez 0 rfl (Mk.H0 hNx)
 have hk0m : k0 ∈ kv.map (·.1) := List.mem_map.2 ⟨_, hNx.mem, rfl⟩
 have hko := JW hNx.rng.map hNx.mem
 have hf0 := hNx.fresh
 have hV2 : (V ++ [k0]).Nodup ∧ ∀ k ∈ V ++ [k0], k ∈ kv.map (·.1) := ⟨List.nodup_append.2 ⟨hV.1, by simp, fun a ha c hc => by simp at hc; subst hc; exact fun e => hf0 (e ▸ ha)⟩, fun k hk => (List.mem_append.1 hk).elim (hV.2 k) (fun h => by cases List.mem_singleton.1 h; exact hk0m)⟩
 have hVl := hV2.1.length_le_of_subset hV2.2
 rw [List.length_append, List.length_singleton, List.length_map] at hVl
 refine I (.xt rfl rfl) (Ao (CW.v rfl (Aj (Ac (An (Af (Al (.entry (.t rfl) hNx.entry) rfl ?_)))))))
 rintro _ _ ⟨rfl, rfl⟩
 refine I (.xt rfl rfl) (Al (.Bm zeroValue123) rfl ?_)
 rintro _ w5 ⟨B4, rfl, MB4⟩
 refine Be (.Bi sizeOf123 rfl (.t rfl) (.t rfl) (Grp.one _) MB4.blk rfl) ?_
 intro w6 LB4
 have NB4 := MB4.set LB4
 replace hS := hS.Bn NB4
 refine Ao (Aa (Ab rfl (I (.lc rfl (hS.b3.agg)) (A3 (Cs (.t rfl) (.cu rfl) (hen)) rfl (hp _ hS.fr k0) ?_))))
 rintro _ w7 ⟨rfl, uw7⟩
 replace hS := hS.up uw7
 refine Ai (CW.b rfl (fun h17 => ?_) (fun h17 => ?_))
 ·have hpk : p k0 = true := by simpa using h17
  refine Aa (I (.fB 1 rfl) (I (.lb rfl (hS.b2.Ah rfl)) (I (.lc rfl (hS.b3.agg)) (I (.build (cs := #[]) underlying111 zeroValue111 I7 .nil rfl) (Be (Mk.SEv.mapUpdate (Q := Ca) underlying117 Jz hko (.t rfl) (.t rfl) (.t rfl) (hS.get 1 rfl)) ?_)))))
  rintro w8 ⟨Mu, Ku, zu⟩
  rw [Zu] at Mu
  replace hS := hS.Ez 1 rfl (Mk.Hv Mu Ku)
  refine LW.nil (Ae (Ar ?_))
  exact ⟨(V ++ [k0], Qw T k0), ⟨hV2, qB hTm hpk, hS.take 3⟩, tQ, by show kv.length - (V ++ [k0]).length < kv.length - V.length; rw [List.length_append, List.length_singleton]; omega⟩
 have hpk : p k0 = false := by simpa using h17
 refine Aj (Ae (Ar ?_))
 exact ⟨(V ++ [k0], T), ⟨hV2, uX hTm hpk, hS.take 3⟩, tQ, by show kv.length - (V ++ [k0]).length < kv.length - V.length; rw [List.length_append, List.length_singleton]; omega⟩
theorem Qo (f : Fact) (E bf bd bs : Nat) (bc : Array Go.Value) (n : Int) (kv : List (Grp × Go.Value)) (St : List Grp) (w : World) (hE : Blk w E (EC bf bc bd n) 107) (hbc : bc.size = 11) (hEn : ¬ Cu [Mk.A4 Ca bd kv, Mk.A4 Ca bs (List.map Jf St)] E) (hS0 : Wx.Sep (Cu [Mk.A4 Ca bd kv, Mk.A4 Ca bs (List.map Jf St)]) w w [Mk.A4 Ca bd kv, Mk.A4 Ca bs (List.map Jf St)]) : Ret prog 114 #[.agg #[.pointer (some ⟨E, 0, none⟩), .map (some bs)], .agg f.cells] w fun r w' => ∃ St', r = .tuple #[] ∧ Wx.Sep (Cu [Mk.A4 Ca bd kv, Mk.A4 Ca bs (List.map Jf St)]) w w' [Mk.A4 Ca bd kv, Mk.A4 Ca bs (List.map Jf St')] ∧ ∀ g, g ∈ St' ↔ g ∈ St ∨ (g ∈ kv.map (·.1) ∧ decide (g = Ig f) = true) := by
 obtain ⟨w0, rfl, _⟩ := W0 w
 have hS := hS0
 refine cT 7 func114 rfl (Af (Al (.bA rfl) rfl ?_))
 rintro _ w1 ⟨B2, rfl, NB2⟩
 replace hS := hS.Bn NB2
 refine Al (.bA rfl) rfl ?_
 rintro _ w2 ⟨B3, rfl, NB3⟩
 replace hS := hS.Bn NB3
 refine Ai (Aa (I (.lc rfl (hS.b2.agg)) (I (.makeFunc (.cu rfl)) ?_)))
 replace hS := hS.Ec 0 rfl
 replace hS := hS.Ec 0 rfl
 have hq_ := (show Wx.Sep _ _ _ ([_, _] ++ [_, _]) from hS)
 refine A3 (eC (.u rfl rfl) (mN)) rfl (Tt 231 _ (fun g => decide (g = Ig f)) ET E bf bd bs bc n kv St _ (hE.T9 hS.fr hEn) hbc hEn hq_.right.self (fun W hW g => qR g B3 f W (hS.b1.T9 hW (hq_.mA ⟨_, List.mem_cons_of_mem _ List.mem_cons_self, rfl⟩)))) ?_
 rintro _ w3 ⟨St2, rfl, uw3, hmem⟩
 replace hS := hq_.frame uw3
 refine LW.nil (C7 rfl ⟨_, rfl, ?_⟩)
 exact ⟨St2, rfl, hS.sub (.cons _ (.cons _ (List.Sublist.refl _))), hmem⟩
theorem lK (f : Fact) (E bf bd bs : Nat) (bc : Array Go.Value) (n : Int) (kv : List (Grp × Go.Value)) (St : List Grp) (w : World) (hE : Blk w E (EC bf bc bd n) 107) (hbc : bc.size = 11) (hEn : ¬ Cu [Mk.A4 Ca bd kv, Mk.A4 Ca bs (List.map Jf St)] E) (hS0 : Wx.Sep (Cu [Mk.A4 Ca bd kv, Mk.A4 Ca bs (List.map Jf St)]) w w [Mk.A4 Ca bd kv, Mk.A4 Ca bs (List.map Jf St)]) : Ret prog 116 #[.agg #[.pointer (some ⟨E, 0, none⟩), .map (some bs)], .agg f.cells] w fun r w' => ∃ St', r = .tuple #[] ∧ Wx.Sep (Cu [Mk.A4 Ca bd kv, Mk.A4 Ca bs (List.map Jf St)]) w w' [Mk.A4 Ca bd kv, Mk.A4 Ca bs (List.map Jf St')] ∧ ∀ g, g ∈ St' ↔ g ∈ St ∨ (g ∈ kv.map (·.1) ∧ (decide (g.t = f.Tool) && decide (g.c = f.Chamber)) = true) := by
 obtain ⟨w0, rfl, _⟩ := W0 w
 have hS := hS0
 refine cT 7 func116 rfl (Af (Al (.bA rfl) rfl ?_))
 rintro _ w1 ⟨B2, rfl, NB2⟩
 replace hS := hS.Bn NB2
 refine Al (.bA rfl) rfl ?_
 rintro _ w2 ⟨B3, rfl, NB3⟩
 replace hS := hS.Bn NB3
 refine Ai (Aa (I (.lc rfl (hS.b2.agg)) (I (.makeFunc (.cu rfl)) ?_)))
 replace hS := hS.Ec 0 rfl
 replace hS := hS.Ec 0 rfl
 have hq_ := (show Wx.Sep _ _ _ ([_, _] ++ [_, _]) from hS)
 refine A3 (eC (.u rfl rfl) (mN)) rfl (Tt 232 _ (fun g => (decide (g.t = f.Tool) && decide (g.c = f.Chamber))) EU E bf bd bs bc n kv St _ (hE.T9 hS.fr hEn) hbc hEn hq_.right.self (fun W hW g => qS g B3 f W (hS.b1.T9 hW (hq_.mA ⟨_, List.mem_cons_of_mem _ List.mem_cons_self, rfl⟩)))) ?_
 rintro _ w3 ⟨St2, rfl, uw3, hmem⟩
 replace hS := hq_.frame uw3
 refine LW.nil (C7 rfl ⟨_, rfl, ?_⟩)
 exact ⟨St2, rfl, hS.sub (.cons _ (.cons _ (List.Sublist.refl _))), hmem⟩
theorem dK (f : Fact) (E bf bd bs : Nat) (bc : Array Go.Value) (n : Int) (kv : List (Grp × Go.Value)) (St : List Grp) (w : World) (hE : Blk w E (EC bf bc bd n) 107) (hbc : bc.size = 11) (hEn : ¬ Cu [Mk.A4 Ca bd kv, Mk.A4 Ca bs (List.map Jf St)] E) (hS0 : Wx.Sep (Cu [Mk.A4 Ca bd kv, Mk.A4 Ca bs (List.map Jf St)]) w w [Mk.A4 Ca bd kv, Mk.A4 Ca bs (List.map Jf St)]) : Ret prog 117 #[.agg #[.pointer (some ⟨E, 0, none⟩), .map (some bs)], .agg f.cells] w fun r w' => ∃ St', r = .tuple #[] ∧ Wx.Sep (Cu [Mk.A4 Ca bd kv, Mk.A4 Ca bs (List.map Jf St)]) w w' [Mk.A4 Ca bd kv, Mk.A4 Ca bs (List.map Jf St')] ∧ ∀ g, g ∈ St' ↔ g ∈ St ∨ (g ∈ kv.map (·.1) ∧ decide (g.r = f.Recipe) = true) := by
 obtain ⟨w0, rfl, _⟩ := W0 w
 have hS := hS0
 refine cT 7 func117 rfl (Af (Al (.bA rfl) rfl ?_))
 rintro _ w1 ⟨B2, rfl, NB2⟩
 replace hS := hS.Bn NB2
 refine Al (.bA rfl) rfl ?_
 rintro _ w2 ⟨B3, rfl, NB3⟩
 replace hS := hS.Bn NB3
 refine Ai (Aa (I (.lc rfl (hS.b2.agg)) (I (.makeFunc (.cu rfl)) ?_)))
 replace hS := hS.Ec 0 rfl
 replace hS := hS.Ec 0 rfl
 have hq_ := (show Wx.Sep _ _ _ ([_, _] ++ [_, _]) from hS)
 refine A3 (eC (.u rfl rfl) (mN)) rfl (Tt 233 _ (fun g => decide (g.r = f.Recipe)) EV E bf bd bs bc n kv St _ (hE.T9 hS.fr hEn) hbc hEn hq_.right.self (fun W hW g => qT g B3 f W (hS.b1.T9 hW (hq_.mA ⟨_, List.mem_cons_of_mem _ List.mem_cons_self, rfl⟩)))) ?_
 rintro _ w3 ⟨St2, rfl, uw3, hmem⟩
 replace hS := hq_.frame uw3
 refine LW.nil (C7 rfl ⟨_, rfl, ?_⟩)
 exact ⟨St2, rfl, hS.sub (.cons _ (.cons _ (List.Sublist.refl _))), hmem⟩
theorem Z3 (f : Fact) (E bf bd bs : Nat) (bc : Array Go.Value) (n : Int) (kv : List (Grp × Go.Value)) (St : List Grp) (w : World) (hE : Blk w E (EC bf bc bd n) 107) (hbc : bc.size = 11) (hEn : ¬ Cu [Mk.A4 Ca bd kv, Mk.A4 Ca bs (List.map Jf St)] E) (hS0 : Wx.Sep (Cu [Mk.A4 Ca bd kv, Mk.A4 Ca bs (List.map Jf St)]) w w [Mk.A4 Ca bd kv, Mk.A4 Ca bs (List.map Jf St)]) (kb : Base) (hC : BaseC w bc kb) (hkb : kb.Processes.length ≤ 100000) : Ret prog 115 #[.agg #[.pointer (some ⟨E, 0, none⟩), .map (some bs)], .agg f.cells] w fun r w' => ∃ St', r = .tuple #[] ∧ Wx.Sep (Cu [Mk.A4 Ca bd kv, Mk.A4 Ca bs (List.map Jf St)]) w w' [Mk.A4 Ca bd kv, Mk.A4 Ca bs (List.map Jf St')] ∧ ∀ g, g ∈ St' ↔ g ∈ St ∨ (g ∈ kv.map (·.1) ∧ mB kb f g = true) := by
 obtain ⟨w0, rfl, _⟩ := W0 w
 have hS := hS0
 refine cT 21 func115 rfl (Af (Al (.bA rfl) rfl ?_))
 rintro _ w1 ⟨B2, rfl, NB2⟩
 replace hE := hE.up NB2.up
 replace hC := hC.up NB2.up
 replace hS := hS.Bn NB2
 refine Al (.bA rfl) rfl ?_
 rintro _ w2 ⟨B3, rfl, NB3⟩
 replace hE := hE.up NB3.up
 replace hC := hC.up NB3.up
 replace hS := hS.Bn NB3
 refine Ao (Q6 14 11 12 9 4 15 (Fact.cells Ee) [.eq (.pointer (some ⟨B2, 0, none⟩)), .eq (.pointer (some ⟨E, 0, none⟩)), .eq (.pointer (some ⟨E, 0, none⟩)), .eq (.pointer (some ⟨E, 1, none⟩)), .eq (.agg bc), .eq (.pointer (some ⟨B3, 1, none⟩)), .eq (vi f.ID), .eq (.tuple #[.agg (Fact.cells ((Eo kb f.ID).getD Ee)), .bool (Eo kb f.ID).isSome]), .eq (.tuple #[.agg (Fact.cells ((Eo kb f.ID).getD Ee)), .bool (Eo kb f.ID).isSome]), .eq (.agg (Fact.cells ((Eo kb f.ID).getD Ee))), .eq (.bool (Eo kb f.ID).isSome), .pred fun v _ => ∃ B, v = .pointer (some ⟨B, 0, none⟩), .eq (undef), .eq (.bool (Eo kb f.ID).isSome)] [5] zeroValue28 sizeOf28 kQ rfl kQ kQ kQ kQ kQ kQ kQ rfl rfl ⟨_, _, _, rfl⟩ _ rfl ⟨_, _, _, rfl⟩ ⟨PhT.eq _ _, PhT.eq _ _, PhT.eq _ _, PhT.eq _ _, PhT.eq _ _, PhT.eq _ _, PhT.eq _ _, PhT.eq _ _, PhT.eq _ _, PhT.eq _ _, PhT.eq _ _, PhT.pred fun _ _ _ h _ => h, PhT.eq _ _, PhT.eq _ _, trivial⟩ rfl (fun v W h => ⟨_, h, rfl, Fact.one _⟩) (fun B W => ⟨B, rfl⟩) ?_ ?_)
 ·intro W hU0
  have hU := (Up.drew w2).trans hU0
  have hSW := hS.up hU
  have hEW := hE.up hU
  have hCW := hC.up hU
  refine aC (.inr ⟨rfl, TU.p (.fB 0 rfl) rfl⟩) (aC (.inr ⟨rfl, TU.p (.lb rfl (hSW.b2.Ah rfl)) rfl⟩) (aC (.inr ⟨rfl, TU.p (.nc rfl) rfl⟩) (aC (.inr ⟨rfl, TU.p (.fB 1 rfl) rfl⟩) (aC (.inr ⟨rfl, TU.p (.Gs isAgg50 sizeOf50 hbc (.t rfl) (O4 hEW)) rfl⟩) (aC (.inr ⟨rfl, TU.p (.fB 1 rfl) rfl⟩) (aC (.inr ⟨rfl, TU.p (.lb rfl (hSW.b3.Ah rfl)) rfl⟩) (aC (.inr ⟨rfl, TU.c (eC (.u rfl rfl) (mL)) (Lr bc kb f.ID W hCW hkb) sQ⟩) (aC (.inr ⟨rfl, TU.p (.mv rfl) rfl⟩) (aC (.inr ⟨rfl, TU.p (.xt rfl rfl) rfl⟩) (aC (.inr ⟨rfl, TU.p (.xt rfl rfl) rfl⟩) (aC (.inl (.inl rfl)) (aC (.inl (.inr rfl)) (aC (.inr ⟨rfl, TU.p (.assign (.t rfl)) rfl⟩) ?_)))))))))))))
  exact allL.nil
 intro w3 B4 g hU0 zB4_ hB4 hg
 have hU := (Up.drew w2).trans hU0
 have zw3 := hU.size
 have zdr : w2.drew.heap.size = w2.heap.size := rfl
 have g15_ : g 15 = .agg (Fact.cells ((Eo kb f.ID).getD Ee)) := hg 9 _ 15 cQ rfl rfl
 have g5_ : g 5 = .bool (Eo kb f.ID).isSome := hg 13 _ 5 cQ rfl rfl
 rw [g15_] at hB4
 replace hB4 : Blk w3 B4 (Fact.cells ((Eo kb f.ID).getD Ee)) 28 := hB4
 change LW _ _ _ _ _ _ _ _ ((4, _) :: (5, .eq (g 5)) :: _) _
 rw [g5_]
 replace hE := hE.up hU
 replace hC := hC.up hU
 replace hS := (hS.up (Up.drew _)).add hU0 (A' := Cc B4 (Fact.cells ((Eo kb f.ID).getD Ee)) 28) hB4 (fun i (e : i = B4) => by omega)
 refine Ao (Aa (Ab rfl (Ai (CW.b rfl (fun h17 => ?_) (fun h17 => ?_)))))
 ·obtain ⟨p, hp⟩ := Option.isSome_iff_exists.1 h17
  rw [hp] at hS
  refine Aa (I (.lc rfl (hS.b2.agg)) (I (.lc rfl (hS.b4.agg)) ?_))
  replace hS := hS.Ec 0 rfl
  replace hS := hS.Ec 0 rfl
  have hq_ := (show Wx.Sep _ _ _ ([_, _, _] ++ [_, _]) from hS)
  refine A3 (eC (.u rfl rfl) (wX)) rfl (Qo p E bf bd bs bc n kv St _ hE hbc hEn hq_.right.self) ?_
  rintro _ w4 ⟨St2, rfl, uw4, hmem⟩
  replace hS := hq_.frame uw4
  refine LW.nil (C7 rfl ⟨_, rfl, ?_⟩)
  exact ⟨St2, rfl, hS.sub (.cons _ (.cons _ (.cons _ (List.Sublist.refl _)))), fun g => by rw [qC hp]; exact hmem g⟩
 have hp : Eo kb f.ID = none := by simpa using h17
 refine Aj (C7 rfl ⟨_, rfl, ?_⟩)
 exact ⟨St, rfl, hS.take 2, lA (HX hp)⟩
theorem qV (bf : Nat) (m : Dg) (f : Fact) (w : World) (hM : Ms.IMap w bf (Ev m)) : Ret prog 46 #[.map (some bf), .agg f.cells] w fun r w' => ∃ ad k cp, r = .slice ad k cp ∧ decide ((k : Int) > 0) = Jg m f ∧ Stp (Ms.A4 bf (Ev m)) (Ms.A4 bf (Ev (Ck 100000 m f))) w w' := by
 obtain ⟨w0, rfl, _⟩ := W0 w
 have hS : Wx.Sep (Ms.A4 bf (Ev m)).foot w0 w0 [Ms.A4 bf (Ev m)] := Sep.cons (A := Ms.A4 bf (Ev m)) hM (fun _ h => h) (Sep.start _ _) (by simp)
 refine cT 48 func46 rfl (Af (Al (.bA rfl) rfl ?_))
 rintro _ w1 ⟨B3, rfl, NB3⟩
 replace hS := hS.Bn NB3
 refine Ay (Ao (Aa (I (.lc rfl (hS.b1.agg)) (A3 (eC (.o rfl) (mI)) rfl (Ol f _) ?_))))
 rintro _ w2 ⟨rfl, uw2⟩
 replace hS := hS.up uw2
 refine LW.A rfl (Ao ?_)
 cases hq2 : Eb m (A7 f) with
 | none =>
  refine Aa (Ab rfl (Ab rfl (I (Ms.PEv.Gf underlying104 underlying9 zeroValue28 (.t rfl) (.t rfl) (hS.get 0 rfl) (Kb hq2)) (Ab rfl (I (.xt rfl rfl) (I (.fa (PEv.xt rfl rfl) (rfl)) (Al (.Bm zeroValue28) rfl ?_)))))))
  rintro _ w3 ⟨B6, rfl, MB6⟩
  refine Be (.Bi sizeOf28 rfl (.t rfl) (.t rfl) eQ MB6.blk rfl) ?_
  intro w4 LB6
  have NB6 := MB6.set LB6
  replace hS := hS.Bn NB6
  refine LW.A rfl (Ao (Am ?_))
  cases hq3 : decide (A7 f = []) with
  | true =>
   replace hq3 := of_decide_eq_true hq3
   refine Aa (Ab rfl (I (.tr (Hb (.t rfl) (.const _)) (Pr hq3)) (Ab rfl (Da (Da (I2 rfl rfl rfl rfl rfl rfl (I2 rfl rfl rfl rfl rfl rfl (I2 rfl rfl rfl rfl rfl rfl (I2 rfl rfl rfl rfl rfl rfl (Da (I (.E1 (b := false) (.t rfl) (fun hp => absurd (show true = false from hp) cQ)) (Ai (CW.v rfl (Af (Ay (Ai (Ak (Ap (KW.q ?_)))))))))))))))))))
   exact ⟨none, 0, 0, rfl, by rw [(I1 hq3).1]; rfl, by rw [(I1 hq3).2]; exact ⟨hS.fr, hS.get 0 rfl, fun _ h => .inl h⟩⟩
  | false =>
   replace hq3 := of_decide_eq_false hq3
   refine Aa (Ab rfl (I (.fa (Hb (.t rfl) (.const _)) (Sy hq3)) (Ab rfl (Cb (Ab rfl (Cb (Ab rfl (Da (Da (Da (Da (Cb (I (.Ei (b := false) (.t rfl) (fun hp => absurd (show false = true from hp) cQ)) (I (.po rfl (fun hp => (by exact .tmp rfl))) (Ai (CW.f rfl (Aj (Ac (Am ?_)))))))))))))))))))
   replace hS := hS.Ye (OwnS.nil _ 0 28 19 Fact.cells)
   refine Aa (Ab rfl (Ab rfl (I (.lc rfl (hS.b1.agg)) (Be (Ms.SEv.mapUpdate underlying104 underlying9 (.t rfl) (.t rfl) (.t rfl) (hS.get 0 rfl)) ?_))))
   rintro w5 ⟨Mu, Ku, zu⟩
   rw [Ou] at Mu
   replace hS := hS.Ez 0 rfl (Ms.Hv Mu Ku)
   refine Ao (Af (Ab rfl (Ab rfl (Da (Da (Da (I (.Ei (b := false) (.t rfl) (fun hp => absurd (show false = true from hp) cQ)) (Ai (CW.f rfl (Aj (Ac (Am (Am ?_)))))))))))))
   cases hq8 : f.Gone with
   | true =>
    refine Aa (I (.fB 4 rfl) (I (.lb rfl (hS.b1.Ah rfl)) (I (.fa (PEv.n1 rfl) (by rw [hq8]; rfl)) (Ai (CW.f rfl (Aj (Ac (Af (Ab rfl (LW.A rfl (Ai (Ak (KW.q ?_)))))))))))))
    (obtain ⟨ad, cp, e_, _⟩ := (hS.own 3 rfl).sl (fun _ => rfl); exact ⟨ad, _, cp, e_, by rw [(Js hq3 hq2).1, hq8]; rfl, by rw [(Js hq3 hq2).2]; exact ⟨hS.fr, hS.get 0 rfl, fun _ h => .inl h⟩⟩)
   | false =>
    refine Aa (I (.fB 4 rfl) (I (.lb rfl (hS.b1.Ah rfl)) (I (.tr (PEv.n1 rfl) (by rw [hq8]; rfl)) (Ai (CW.v rfl (Aa (Ab rfl (I (.lc rfl (hS.b1.agg)) (Al (.buildSlice (xs := [f]) (enc := Fact.cells) (mk := fun f : Fact => .agg f.cells) underlying25 sizeOf28 zeroValue28 rfl cQ (fun _ => rfl) (fun _ => rfl) (.cu rfl) rfl) rfl ?_)))))))))
    rintro _ w6 ⟨B45, cB45, rfl, NB45, yB45, xB45⟩
    replace hS := hS.up NB45.up
    have hE45 := xB45
    refine Al (.C2 (enc := Fact.cells) (bytes := 160) (i := Tryz.t28) underlying25 kQ rfl rfl rfl rfl cQ (fun _ => rfl) Fact.one (.t rfl) (.t rfl) (hS.own 3 rfl) (Aw hE45) (by simp [maxLen]) (by simp)) rfl ?_
    intro v46 w7 Gw7
    replace hS := hS.Ez 3 rfl Gw7
    refine LW.A rfl (Ao (Aa (Ab rfl (LW.A rfl (Ai (Ak (KW.q ?_)))))))
    (obtain ⟨ad, cp, e_, _⟩ := (hS.own 3 rfl).sl (fun _ => rfl); exact ⟨ad, _, cp, e_, by rw [(Js hq3 hq2).1, hq8]; rfl, by rw [(Js hq3 hq2).2]; exact ⟨hS.fr, hS.get 0 rfl, fun _ h => .inl h⟩⟩)
 | some old =>
  refine Aa (Ab rfl (Ab rfl (I (Ms.PEv.D0 underlying104 underlying9 (.t rfl) (.t rfl) (hS.get 0 rfl) (L6 hq2)) (Ab rfl (I (.xt rfl rfl) (I (.tr (PEv.xt rfl rfl) (rfl)) (Al (.Bm zeroValue28) rfl ?_)))))))
  rintro _ w8 ⟨B6, rfl, MB6⟩
  refine Be (.Bi sizeOf28 rfl (.t rfl) (.t rfl) eQ MB6.blk rfl) ?_
  intro w9 LB6
  have NB6 := MB6.set LB6
  replace hS := hS.Bn NB6
  refine LW.A rfl (Ao (Am ?_))
  cases hq3 : decide (A7 f = []) with
  | true =>
   replace hq3 := of_decide_eq_true hq3
   refine Aa (Ab rfl (I (.tr (Hb (.t rfl) (.const _)) (Pr hq3)) (Ab rfl (Da (Da (I2 rfl rfl rfl rfl rfl rfl (I2 rfl rfl rfl rfl rfl rfl (I2 rfl rfl rfl rfl rfl rfl (I2 rfl rfl rfl rfl rfl rfl (Da (I (.E1 (b := false) (.t rfl) (fun hp => absurd (show true = false from hp) cQ)) (Ai (CW.v rfl (Af (Ay (Ai (Ak (Ap (KW.q ?_)))))))))))))))))))
   exact ⟨none, 0, 0, rfl, by rw [(I1 hq3).1]; rfl, by rw [(I1 hq3).2]; exact ⟨hS.fr, hS.get 0 rfl, fun _ h => .inl h⟩⟩
  | false =>
   replace hq3 := of_decide_eq_false hq3
   refine Aa (Ab rfl (I (.fa (Hb (.t rfl) (.const _)) (Sy hq3)) (Ab rfl (Cb (Ab rfl (Cb (Ab rfl (Cb (I (.lc rfl (hS.b1.agg)) (Cb (I (.lc rfl (hS.b2.agg)) (Cb (A3 (eC (.u rfl rfl) (CB)) rfl (On f old _) ?_)))))))))))))
   rintro _ w10 ⟨rfl, uw10⟩
   replace hS := hS.up uw10
   refine Cb (I (.n1 rfl) (Cb (I (.pa rfl (fun hp => (by exact .tmp rfl))) (I (.po rfl (fun hp => (by exact .tmp rfl))) (Ai (CW.b rfl (fun h26 => ?_) (fun h26 => ?_)))))))
   ·replace h26 : Dp f old = false := by simpa using h26
    refine Af (Ay (Ai (Ak (Ap (KW.q ?_)))))
    exact ⟨none, 0, 0, rfl, by rw [(Rh hq3 hq2 h26).1]; rfl, by rw [(Rh hq3 hq2 h26).2]; exact ⟨hS.fr, hS.get 0 rfl, fun _ h => .inl h⟩⟩
   replace h26 : Dp f old = true := by simpa using h26
   refine Aj (Ac (Am ?_))
   replace hS := hS.Ye (OwnS.nil _ 0 28 19 Fact.cells)
   refine Aa (Ab rfl (Ab rfl (I (.lc rfl (hS.b1.agg)) (Be (Ms.SEv.mapUpdate underlying104 underlying9 (.t rfl) (.t rfl) (.t rfl) (hS.get 0 rfl)) ?_))))
   rintro w11 ⟨Mu, Ku, zu⟩
   rw [Ou] at Mu
   replace hS := hS.Ez 0 rfl (Ms.Hv Mu Ku)
   refine Ao (Am ?_)
   cases hq6 : old.Gone with
   | true =>
    refine Aa (Ab rfl (Ab rfl (Cb (I (.fB 4 rfl) (Cb (I (.lb rfl (hS.b2.Ah rfl)) (Cb (I (.fa (PEv.n1 rfl) (by rw [hq6]; rfl)) (I (.pa rfl (fun hp => (by exact .tmp rfl))) (Ai (CW.f rfl (Aj (Ac (Am (Am ?_)))))))))))))))
    cases hq8 : f.Gone with
    | true =>
     refine Aa (I (.fB 4 rfl) (I (.lb rfl (hS.b1.Ah rfl)) (I (.fa (PEv.n1 rfl) (by rw [hq8]; rfl)) (Ai (CW.f rfl (Aj (Ac (Af (Ab rfl (LW.A rfl (Ai (Ak (KW.q ?_)))))))))))))
     (obtain ⟨ad, cp, e_, _⟩ := (hS.own 3 rfl).sl (fun _ => rfl); exact ⟨ad, _, cp, e_, by rw [(F3 hq3 hq2 h26).1, hq6, hq8]; rfl, by rw [(F3 hq3 hq2 h26).2]; exact ⟨hS.fr, hS.get 0 rfl, fun _ h => .inl h⟩⟩)
    | false =>
     refine Aa (I (.fB 4 rfl) (I (.lb rfl (hS.b1.Ah rfl)) (I (.tr (PEv.n1 rfl) (by rw [hq8]; rfl)) (Ai (CW.v rfl (Aa (Ab rfl (I (.lc rfl (hS.b1.agg)) (Al (.buildSlice (xs := [f]) (enc := Fact.cells) (mk := fun f : Fact => .agg f.cells) underlying25 sizeOf28 zeroValue28 rfl cQ (fun _ => rfl) (fun _ => rfl) (.cu rfl) rfl) rfl ?_)))))))))
     rintro _ w12 ⟨B45, cB45, rfl, NB45, yB45, xB45⟩
     replace hS := hS.up NB45.up
     have hE45 := xB45
     refine Al (.C2 (enc := Fact.cells) (bytes := 160) (i := Tryz.t28) underlying25 kQ rfl rfl rfl rfl cQ (fun _ => rfl) Fact.one (.t rfl) (.t rfl) (hS.own 3 rfl) (Aw hE45) (by simp [maxLen]) (by simp)) rfl ?_
     intro v46 w13 Gw13
     replace hS := hS.Ez 3 rfl Gw13
     refine LW.A rfl (Ao (Aa (Ab rfl (LW.A rfl (Ai (Ak (KW.q ?_)))))))
     (obtain ⟨ad, cp, e_, _⟩ := (hS.own 3 rfl).sl (fun _ => rfl); exact ⟨ad, _, cp, e_, by rw [(F3 hq3 hq2 h26).1, hq6, hq8]; rfl, by rw [(F3 hq3 hq2 h26).2]; exact ⟨hS.fr, hS.get 0 rfl, fun _ h => .inl h⟩⟩)
   | false =>
    refine Aa (Ab rfl (Ab rfl (Cb (I (.fB 4 rfl) (Cb (I (.lb rfl (hS.b2.Ah rfl)) (Cb (I (.tr (PEv.n1 rfl) (by rw [hq6]; rfl)) (I (.pa rfl (fun hp => (by exact .tmp rfl))) (Ai (CW.v rfl (Aa (Ab rfl (I (.lc rfl (hS.b2.agg)) (Al (.buildSlice (xs := [old]) (enc := Fact.cells) (mk := fun f : Fact => .agg f.cells) underlying25 sizeOf28 zeroValue28 rfl cQ (fun _ => rfl) (fun _ => rfl) (.cu rfl) rfl) rfl ?_)))))))))))))))
    rintro _ w14 ⟨B38, cB38, rfl, NB38, yB38, xB38⟩
    replace hS := hS.up NB38.up
    have hE38 := xB38
    refine Al (.C2 (enc := Fact.cells) (bytes := 160) (i := Tryz.t28) underlying25 kQ rfl rfl rfl rfl cQ (fun _ => rfl) Fact.one (.t rfl) (.t rfl) (hS.own 3 rfl) (Aw hE38) (by simp [maxLen]) (by simp)) rfl ?_
    intro v39 w15 Gw15
    replace hS := hS.Ez 3 rfl Gw15
    refine LW.A rfl (Ao (Am ?_))
    cases hq8 : f.Gone with
    | true =>
     refine Aa (I (.fB 4 rfl) (I (.lb rfl (hS.b1.Ah rfl)) (I (.fa (PEv.n1 rfl) (by rw [hq8]; rfl)) (Ai (CW.f rfl (Aj (Ac (Af (Ab rfl (LW.A rfl (Ai (Ak (KW.q ?_)))))))))))))
     (obtain ⟨ad, cp, e_, _⟩ := (hS.own 3 rfl).sl (fun _ => rfl); exact ⟨ad, _, cp, e_, by rw [(F3 hq3 hq2 h26).1, hq6, hq8]; rfl, by rw [(F3 hq3 hq2 h26).2]; exact ⟨hS.fr, hS.get 0 rfl, fun _ h => .inl h⟩⟩)
    | false =>
     refine Aa (I (.fB 4 rfl) (I (.lb rfl (hS.b1.Ah rfl)) (I (.tr (PEv.n1 rfl) (by rw [hq8]; rfl)) (Ai (CW.v rfl (Aa (Ab rfl (I (.lc rfl (hS.b1.agg)) (Al (.buildSlice (xs := [f]) (enc := Fact.cells) (mk := fun f : Fact => .agg f.cells) underlying25 sizeOf28 zeroValue28 rfl cQ (fun _ => rfl) (fun _ => rfl) (.cu rfl) rfl) rfl ?_)))))))))
     rintro _ w16 ⟨B45, cB45, rfl, NB45, yB45, xB45⟩
     replace hS := hS.up NB45.up
     have hE45 := xB45
     refine Al (.C2 (enc := Fact.cells) (bytes := 160) (i := Tryz.t28) underlying25 kQ rfl rfl rfl rfl cQ (fun _ => rfl) Fact.one (.t rfl) (.t rfl) (hS.own 3 rfl) (Aw hE45) (by simp [maxLen]) (by simp)) rfl ?_
     intro v46 w17 Gw17
     replace hS := hS.Ez 3 rfl Gw17
     refine LW.A rfl (Ao (Aa (Ab rfl (LW.A rfl (Ai (Ak (KW.q ?_)))))))
     (obtain ⟨ad, cp, e_, _⟩ := (hS.own 3 rfl).sl (fun _ => rfl); exact ⟨ad, _, cp, e_, by rw [(F3 hq3 hq2 h26).1, hq6, hq8]; rfl, by rw [(F3 hq3 hq2 h26).2]; exact ⟨hS.fr, hS.get 0 rfl, fun _ h => .inl h⟩⟩)
theorem Z4 (b : Nat) (w : World) : Ret prog 49 #[.map (some b)] w fun r w' => (∃ B, r = .func (.func 110) #[] #[.pointer (some ⟨B, 0, none⟩)] ∧ Blk w' B #[.map (some b)] 104 ∧ w.heap.size ≤ B) ∧ Up w w' := by
 have hW := Up.refl w
 refine cT 4 func49 rfl (Af (Al (.Pc (.t rfl) rfl) rfl ?_))
 rintro _ w1 ⟨B1, rfl, NB1⟩
 have eB1 := NB1.at_
 replace hW := hW.up NB1.up
 have hB1 := NB1.blk
 refine Ay (Ao (Aa (I (.makeFunc (.cu rfl)) (LW.A rfl (Ai (Ak (KW.q ?_)))))))
 exact ⟨⟨_, rfl, hB1, by omega⟩, hW⟩
theorem Xn (X Y : Nat → Prop) (B1 b : Nat) (m : Dg) (w : World) (hYY : ∀ i, Y i → i < w.heap.size) (hQX : ¬ X B1) (hbY : ¬ Y b) (hMo : MOk m) (hNd : (m.map (·.1)).Nodup) (hQ0 : Blk w B1 #[.map (some b)] 104) (hM0 : Ms.IMap w b (Ev m)) :
   IterS Tryz.prog 110 #[.pointer (some ⟨B1, 0, none⟩)] AO X Y (fun ys => ys.Perm (Fs m)) (fun _ => True) m.length w := by
 refine IterS.of ?_
 intro lp J Jx w0 hUw _ hY hJ
 obtain ⟨Bd, hBd⟩ : ∃ Bd, Bd = w0.heap.size := ⟨_, rfl⟩
 rw [← hBd] at hJ hY
 have zU := hUw.size
 have hQ := hQ0.up hUw
 have hM := hM0.up hUw
 have zQ0 := hQ.lt
 refine cT 15 func110 rfl (Af (I (.lb rfl (hQ.Ah rfl)) (Al (Ms.REv.range underlying104 (.t rfl) hM) rfl ?_)))
 rintro _ w1 ⟨r6, rfl, hR6, uw1, ew1, zw1⟩
 replace hQ := hQ.up uw1
 replace hM := hM.up uw1
 replace hJ := hJ.up uw1
 refine Ai (An (CW.loop (σ := List Fact) (fun s w => Jw Bd J s w ∧ Blk w B1 #[.map (some b)] 104 ∧ Ms.IRng w b r6 (Ev m) (s.map A7) ∧ ∀ f ∈ s, (A7 f, f) ∈ m) (fun s => [(0, .eq (.func (.yield lp) #[] #[])), (6, .eq (.pointer (some ⟨r6, 0, none⟩)))]) (fun s => m.length - s.length) [] ?_ ?_ ?_))
 ·exact ⟨hJ, hQ, hR6, fun _ h => by cases h⟩
 ·exact tQ
 rintro ds w2 ⟨hJ, hQ, hR6, hds⟩
 have zQ := hQ.lt
 refine Af (Al (Ms.REv.next (.t rfl) hR6) rfl ?_)
 rintro _ w3 (⟨rfl, rfl, hPm⟩ | ⟨k, u, rfl, hNx⟩)
 ·skip
  refine I (.xt rfl rfl) (Ao (CW.f rfl (Bl (Ad (Ad (Aq (C7 rfl ⟨_, rfl, ?_⟩)))))))
  exact .inl ⟨_, Vs hMo hNd hds (by rw [Iy] at hPm; exact hPm), hJ.j⟩
 skip
 obtain ⟨_, ho, hwk⟩ := hNx.walk
 replace hJ := hJ.walk hNx.grown oQ ho hwk
 replace hQ := hQ.sto hNx.sto oQ
 replace hR6 := hNx.rng
 have zw3 := hNx.size
 obtain ⟨⟨kx, x⟩, hmem0, he0⟩ := List.mem_map.1 hNx.mem
 cases he0
 have hkx := (hMo _ hmem0).1
 dsimp only at hkx
 subst hkx
 refine I (.xt rfl rfl) (Ao (CW.v rfl (Aj (Ac (An (Af (Al (.entry (.t rfl) hNx.entry) rfl ?_)))))))
 rintro _ _ ⟨rfl, rfl⟩
 refine I (.xt rfl rfl) (Al (.Bm zeroValue28) rfl ?_)
 rintro _ w4 ⟨B4, rfl, MB4⟩
 refine Be (.Bi sizeOf28 rfl (.t rfl) (.t rfl) (Fact.one _) MB4.blk rfl) ?_
 intro w5 LB4
 have NB4 := MB4.set LB4
 replace hJ := hJ.up NB4.up
 replace hQ := hQ.up NB4.up
 replace hR6 := hR6.up NB4.up
 have hB4 := NB4.blk
 refine Ao (Aa (Ab rfl (I (.lc rfl (hB4.agg)) (LW.y (.t rfl) (.cu rfl) rfl rfl (hY ds x _ hJ (by have := hR6.length; simp [Ev] at this; omega)) ?_))))
 rintro _ w6 ⟨y, rfl, hcase⟩
 refine I (.n1 rfl) (Ai (CW.b rfl (fun h14 => ?_) (fun h14 => ?_)))
 ·have hy : y = false := by simpa using h14
  subst hy
  obtain ⟨_, hJx⟩ := hcase.resolve_left (by simp)
  refine Ak (A9 (Ap (A9 (Ih rfl ⟨_, rfl, ?_⟩))))
  exact .inr ⟨_, trivial, hJx⟩
 have hy : y = true := by simpa using h14
 subst hy
 obtain ⟨_, hJ2, hN⟩ := hcase.resolve_right (by simp)
 replace hQ := hQ.kx hN hQX
 replace hR6 := hR6.kx hN hbY (fun h => by have := hYY _ h; omega)
 have hds2 : ∀ f ∈ ds ++ [x], (A7 f, f) ∈ m := fun f hf => (List.mem_append.1 hf).elim (hds f) (fun h => by cases List.mem_singleton.1 h; exact hmem0)
 refine Aj (Ae (Ar ?_))
 exact ⟨ds ++ [x], ⟨hJ2, hQ, by rw [List.map_append]; exact hR6, hds2⟩, tQ, by have := hR6.length; simp [Ev] at this ⊢; omega⟩
theorem Tv (g : Nat) (lb : Array Go.Value) (S Sp : List Fact → Prop) (N : Nat) (w : World) (en : ∀ args w, (callFunc g args).run Tryz.prog w = .ok (.enter g args) w) (hit : ∀ W (X Y : Nat → Prop), Up w W → (∀ i, X i → w.heap.size ≤ i) → (∀ i, Y i → w.heap.size ≤ i ∧ i < W.heap.size) → IterS Tryz.prog g lb AO X Y S Sp N W) (hN0 : N ≤ 1000000000) : Ret prog 109 #[.slice none 0 0, .func (.func g) #[] lb] w fun r w' => ∃ ks, S ks ∧ (J 28 19 Fact.cells r ks).holds w' ∧ (∀ i, (J 28 19 Fact.cells r ks).foot i → w.heap.size ≤ i) ∧ Up w w' := by
 obtain ⟨w0, rfl, _⟩ := W0 w
 have hS := (Sep.start no w0).pX
 refine Gz (n := 13) func109 rfl rfl rfl (Af (Al (.Pc (.t rfl) rfl) rfl ?_))
 rintro _ w1 ⟨B2, rfl, NB2⟩
 replace hS := hS.Bn NB2
 refine Ay (Ao (Af (Ab rfl (Ai (An ?_)))))
 obtain ⟨bq, hbq⟩ : ∃ bq, bq = w1.heap.size := ⟨_, rfl⟩
 replace hS := hS.add (Up.refl _) (A' := J 28 19 Fact.cells (.slice none 0 0) ([] : List Fact)) (OwnS.nil _ _ _ _ _) (fun i h => by cases h)
 refine Qn (Zs := [_]) (σ := Go.Value × List Fact) (fun s => [Cc B2 #[s.1] 25, J 28 19 Fact.cells s.1 s.2]) (fun pre s => (s.2 = pre)) (fun _ _ _ => False) (fun x b => [Cc b x.cells 28]) (fun x b => [(5, .eq (.pointer (some ⟨b, 0, none⟩))), (2, .eq (.pointer (some ⟨B2, 0, none⟩)))]) (.slice none 0 0, []) (.t rfl) en (hit _ _ _ hS.Cr (fun i h => h.1.elim (fun h => h.elim) id) (fun i h => ⟨h.1.elim (fun h => h.elim) id, h.2.1⟩)) (fun _ => rfl) rfl (fun _ _ => rfl) (show Wx.Sep _ _ _ ([_] ++ [_, _]) from hS) rfl ?_ ?_ ?_ ?_
 ·intro lp x w2
  have hS := Sep.start no w2
  refine M4 rfl (Aa (Al (.Bm zeroValue28) rfl ?_))
  rintro _ w3 ⟨B5, rfl, MB5⟩
  refine Be (.Bi sizeOf28 rfl (.t rfl) (.t rfl) (Fact.one _) MB5.blk rfl) ?_
  intro w4 LB5
  have NB5 := MB5.set LB5
  replace hS := hS.Bn NB5
  refine LW.nil ?_
  exact fun a ha => ⟨_, hS, .cons (pV hS.b0) (.nil _ _), ha.sub tQ⟩
 ·rintro lp pre x ⟨v, ks⟩ b w5 hJ hlt hqw hS0 hS
  rw [← hbq] at hqw ⊢
  subst hJ
  dsimp only at hlt
  refine An (Aa (I (.lb rfl (hS.b0.Ah rfl)) (I (.lc rfl (hS.b2.agg)) (Al (.buildSlice (xs := [x]) (enc := Fact.cells) (mk := fun s : Fact => .agg s.cells) underlying25 sizeOf28 zeroValue28 rfl cQ (fun _ => rfl) (fun _ => rfl) (.cu rfl) rfl) rfl ?_))))
  rintro _ w6 ⟨B10, cB10, rfl, NB10, yB10, xB10⟩
  replace hS := hS.up NB10.up
  have hE10 := xB10
  refine Al (.C2 (enc := Fact.cells) (bytes := 160) (i := Tryz.t28) underlying25 kQ rfl rfl rfl rfl cQ (fun _ => rfl) Fact.one (.t rfl) (.t rfl) (hS.own 1 rfl) (Aw hE10) (by simp only [maxLen, List.length_cons, List.length_nil]; omega) (by simp only [List.length_cons, List.length_nil]; omega)) rfl ?_
  intro v11 w7 Gw7
  replace hS := hS.Ez 1 rfl Gw7
  refine Be (.store sizeOf25 (.t rfl) (.t rfl) (hS.own 1 rfl).one hS.b0 bQ) ?_
  intro w8 Nw8
  replace hS := hS.Cp 0 rfl Nw8
  refine LW.nil (Ae ?_)
  exact fun _ _ => ⟨(v11, ks ++ [x]), _, rfl, hS, .cons (pV hS.b0) (.cons (HV (hS.own 1 rfl)) (.nil _ _))⟩
 ·rintro Dm ys ⟨v, ks⟩ w9 hDq hYs hJ hqw hS
  rw [← hbq] at hDq hqw
  replace hS := gV (Ds := []) (As := []) (Bs := [_, _]) hS
  refine Ae (Ac (Af (I (.lb rfl (hS.b1.Ah rfl)) (LW.A rfl (Ai (Ak (Tn rfl (Dm :: []) _ (hS.get 0 rfl).1 (hS.get 0 rfl).2 ?_)))))))
  intro w10 hF_
  replace hS := hS.step 0 rfl (A' := pY) hF_ trivial (fun _ h => h.elim)
  refine KW.q ?_
  obtain ⟨rfl⟩ := hJ
  exact ⟨ks, hYs, hS.get 2 rfl, fun i hi => (hS.foot 2 rfl i hi).elim (fun h => h.elim) id, hS.Cr⟩
 exact fun _ _ _ _ _ _ _ h => h.elim
theorem Xo (g : Nat) (lb : Array Go.Value) (S Sp : List Fact → Prop) (N : Nat) (w : World) (en : ∀ args w, (callFunc g args).run Tryz.prog w = .ok (.enter g args) w) (hit : ∀ W (X Y : Nat → Prop), Up w W → (∀ i, X i → w.heap.size ≤ i) → (∀ i, Y i → w.heap.size ≤ i ∧ i < W.heap.size) → IterS Tryz.prog g lb AO X Y S Sp N W) (hN0 : N ≤ 1000000000) : Ret prog 48 #[.func (.func g) #[] lb] w fun r w' => ∃ ks, S ks ∧ (J 28 19 Fact.cells r ks).holds w' ∧ (∀ i, (J 28 19 Fact.cells r ks).foot i → w.heap.size ≤ i) ∧ Up w w' := by
 have hW := Up.refl w
 refine cT 5 func48 rfl (Af (Ay (Ao (Aa (Ab rfl (A3 (eC (.cons (.const _) (.cu rfl)) (CE)) rfl (Tv _ _ _ _ _ _ en hit hN0) ?_))))))
 rintro _ w1 ⟨ks, hS, hO, hF, uw1⟩
 replace hW := hW.up uw1
 refine LW.A rfl (Ai (Ak (KW.q ?_)))
 exact ⟨ks, hS, hO, hF, hW⟩
theorem dL (b : Nat) (kv : List (List UInt8 × Go.Value)) (w : World) (hM : Ms.IMap w b kv) : Ret prog 45 #[.map (some b)] w fun r w' => ∃ b', r = .map (some b') ∧ Ms.IMap w' b' kv ∧ w.heap.size ≤ b' ∧ Up w w' := by
 have hW := Up.refl w
 refine cT 9 func45 rfl (Af (Ay (Ao (Af (Ab rfl (I (.fa (PEv.fa (Mk.PEv.kY underlying104 (.t rfl)) rfl) (rfl)) (Ai (CW.f rfl (Aj (Ac (Af (Ab rfl (I (Mk.PEv.uT kQ (.t rfl)) (Al (uY func102 rfl rfl kQ kQ (.t rfl) hM) rfl ?_))))))))))))))
 rintro _ w1 ⟨b', rfl, hM2, uw1, ew1, zw1⟩
 replace hW := hW.up uw1
 replace hM := hM.up uw1
 refine I (Mk.PEv.kX underlying104 (.t rfl)) (LW.A rfl (Ai (Ak (KW.q ?_))))
 exact ⟨b', rfl, hM2, by omega, hW⟩
theorem qW (cf : Nat) (lb : Array Go.Value) (p : Grp → Bool) (hen : ∀ args w, (callFunc cf args).run Tryz.prog w = .ok (.enter cf args) w) (b : Nat) (kv : List (Grp × Go.Value)) (w : World) (hM : Mk.IMap Ca w b kv) (hp : ∀ W, Fr (· = b) w W → ∀ g, g ∈ kv.map (·.1) → ∀ u, Ret Tryz.prog cf (#[.agg (Grp.cells g), u] ++ lb) W fun r W' => r = .bool (!p g) ∧ Up W W') : Ret prog 112 #[.map (some b), .func (.func cf) #[] lb] w fun r w' => r = .tuple #[] ∧ Stp (Mk.A4 Ca b (kv)) (Mk.A4 Ca b (kv.filter fun q => p q.1)) w w' := by
 obtain ⟨w0, rfl, _⟩ := W0 w
 have hS : Wx.Sep (Mk.A4 Ca b (kv)).foot w0 w0 [Mk.A4 Ca b (kv)] := Sep.cons (A := Mk.A4 Ca b (kv)) hM (fun _ h => h) (Sep.start _ _) (by simp)
 refine cT 19 func112 rfl (Af (Ab rfl (Al (Mk.REv.range (Q := Ca) underlying105 (.t rfl) (hS.get 0 rfl)) rfl ?_)))
 rintro _ w1 ⟨r7, rfl, hR_, uR, eR, zR⟩
 replace hS := hS.Ez 0 rfl (Mk.Gv hR_ uR eR)
 refine Ai (An (A8 (σ := List Grp) (fun s w => (s.Nodup ∧ ∀ k ∈ s, k ∈ kv.map (·.1)) ∧ (Wx.Sep (Mk.A4 Ca b (kv)).foot w0 w [Mk.Fv Ca b r7 (Qx p kv s) (s.filter p)])) (fun s => []) ([(0, .eq _), (1, .eq _), (7, .eq _)]) (fun s => kv.length - s.length) [] ?_ tQ ?_))
 ·exact ⟨⟨List.nodup_nil, fun _ h => (by cases h)⟩, by rw [qD]; exact hS⟩
 rintro V w2 ⟨hV, hS⟩
 refine Af (Al (Mk.REv.next (.t rfl) (hS.get 0 rfl)) rfl ?_)
 rintro _ w3 (⟨rfl, rfl, hPm⟩ | ⟨k0, u0, rfl, hNx⟩)
 ·skip
  refine I (.xt rfl rfl) (Ao (CW.f rfl (Bl (Ad (Ad (Aq (C7 rfl ⟨_, rfl, ?_⟩)))))))
  rw [qF hPm] at hS
  have hS2 := hS.Ez 0 rfl (Mk.Tl (hS.get 0 rfl))
  exact ⟨rfl, hS2.fr, hS2.get 0 rfl, fun _ h => .inl h⟩
 skip
 have zw3 := hNx.size
 replace hS := hS.Ez 0 rfl (Mk.H0 hNx)
 obtain ⟨hk0V, hk0⟩ := dA hNx.mem hNx.fresh
 have hk0m : k0 ∈ kv.map (·.1) := List.mem_map.2 ⟨_, hk0, rfl⟩
 have hV2 : (V ++ [k0]).Nodup ∧ ∀ k ∈ V ++ [k0], k ∈ kv.map (·.1) := ⟨List.nodup_append.2 ⟨hV.1, by simp, fun a ha c hc => by simp at hc; subst hc; exact fun e => hk0V (e ▸ ha)⟩, fun k hk => (List.mem_append.1 hk).elim (hV.2 k) (fun h => by cases List.mem_singleton.1 h; exact hk0m)⟩
 have hVl := hV2.1.length_le_of_subset hV2.2
 rw [List.length_append, List.length_singleton, List.length_map] at hVl
 refine I (.xt rfl rfl) (Ao (CW.v rfl (Aj (Ac (An (Af (Al (.entry (.t rfl) hNx.entry) rfl ?_)))))))
 rintro _ _ ⟨rfl, rfl⟩
 refine I (.xt rfl rfl) (I (.xt rfl rfl) (Al (.Bm zeroValue123) rfl ?_))
 rintro _ w4 ⟨B4, rfl, MB4⟩
 refine Be (.Bi sizeOf123 rfl (.t rfl) (.t rfl) (Grp.one _) MB4.blk rfl) ?_
 intro w5 LB4
 have NB4 := MB4.set LB4
 replace hS := hS.Bn NB4
 refine LW.A rfl (Ao (Aa (Ab rfl (I (.lc rfl (hS.b1.agg)) (Ab rfl (A3 (Cs (.t rfl) (.ct rfl (.cu rfl)) (hen)) rfl (hp _ hS.fr k0 hk0m u0) ?_))))))
 rintro _ w6 ⟨rfl, uw6⟩
 replace hS := hS.up uw6
 refine Ai (CW.b rfl (fun h16 => ?_) (fun h16 => ?_))
 ·have hid : p k0 = false := by simpa using h16
  refine Aa (Ab rfl (I (.lc rfl (hS.b1.agg)) (xR (Mk.REv.uS (Q := Ca) underlying105 Jz (.t rfl) (.t rfl) (hS.get 0 rfl)) rfl rfl rfl ?_)))
  rintro _ w7 ⟨hR2, Kd, zd⟩
  replace hS := hS.Ez 0 rfl (Mk.uP hR2 Kd)
  refine LW.nil (Ae (Ar ?_))
  exact ⟨V ++ [k0], ⟨hV2, by (rw [vA kv V hid, AP V hid]; exact hS.take 1)⟩, tQ, by rw [List.length_append, List.length_singleton]; omega⟩
 have hid : p k0 = true := by simpa using h16
 refine Aj (Ae (Ar ?_))
 exact ⟨V ++ [k0], ⟨hV2, by (rw [qE kv V hid, vB V hid]; exact hS.take 1)⟩, tQ, by rw [List.length_append, List.length_singleton]; omega⟩
theorem qX (g : Grp) (u : Go.Value) (Bt bt : Nat) (L : List Grp) (w : World) (hg : g.ok) (hT : Blk w Bt #[.map (some bt)] 117) (hM : Mk.IMap Ca w bt (L.map Jf)) : Ret prog 113 #[.agg g.cells, u, .pointer (some ⟨Bt, 0, none⟩)] w fun r w' => r = .bool (!decide (g ∈ L)) ∧ Up w w' := by
 have hW := Up.refl w
 refine cT 16 func113 rfl (Af (Al (.bA rfl) rfl ?_))
 rintro _ w1 ⟨B3, rfl, NB3⟩
 replace hT := hT.up NB3.up
 replace hM := hM.up NB3.up
 replace hW := hW.up NB3.up
 have hB3 := NB3.blk
 refine Ay (Ao (Aa (I (.lb rfl (hT.Ah rfl)) (I (.lc rfl (hB3.agg)) (I (.uV underlying117 Jz hg zeroValue111 (.t rfl) (.t rfl) hM) (Ab rfl (I (.xt rfl rfl) (I (.xt rfl rfl) (Al (.Bm zeroValue111) rfl ?_)))))))))
 rintro _ w2 ⟨B6, rfl, MB6⟩
 refine Be (.Bi sizeOf111 rfl (.t rfl) (.t rfl) (by simp [Value.oneCell']) MB6.blk rfl) ?_
 intro w3 LB6
 have NB6 := MB6.set LB6
 replace hT := hT.up NB6.up
 replace hM := hM.up NB6.up
 replace hW := hW.up NB6.up
 replace hB3 := hB3.up NB6.up
 have hB6 := NB6.blk
 refine LW.A rfl (Ao (Aa (Ab rfl (I (.n1 rfl) (LW.A rfl (Ai (Ak (KW.q ?_))))))))
 exact ⟨rfl, hW⟩
theorem Z5 (E bf bd : Nat) (bc : Array Go.Value) (nw : Int) (kb : Base) (ad : Option Addr) (cp : Nat) (D : List DE) (w : World) (hE : Blk w E (EC bf bc bd nw) 107) (hbc : bc.size = 11) (h0 : bc[0]? = some (.slice ad kb.Processes.length cp)) (hEp : Els w ad 19 Fact.cells kb.Processes) (hPb : kb.Processes ≠ [] → ∀ B o, ad = some ⟨B, o, none⟩ → B ≠ bd) (hok : ∀ p ∈ kb.Processes, (Ig p).ok) (hl : kb.Processes.length ≤ 100000) (hEn : ¬ Cu [Mk.A4 Ca bd (D.map DE.kv)] E) (hS0 : Wx.Sep (Cu [Mk.A4 Ca bd (D.map DE.kv)]) w w [Mk.A4 Ca bd (D.map DE.kv)]) : Ret prog 50 #[.pointer (some ⟨E, 0, none⟩)] w fun r w' => r = .tuple #[] ∧ Wx.Sep (Cu [Mk.A4 Ca bd (D.map DE.kv)]) w w' [Mk.A4 Ca bd ((O7 D kb.Processes).map DE.kv)] := by
 obtain ⟨w0, rfl, _⟩ := W0 w
 have hS := hS0
 refine cT 47 func50 rfl (Af (Al (Mk.REv.makeMap (Q := Ca)) rfl ?_))
 rintro _ w1 ⟨M8, rfl, hMM8, uw1, eM8, zM8⟩
 replace hS := hS.add uw1 (A' := Mk.A4 Ca M8 ((G9 (kb.Processes.take 0)).map Jf)) hMM8 (fun i (h : i = M8) => by omega)
 refine Al (.H6 zeroValue117 rfl) rfl ?_
 rintro _ w2 ⟨B2, rfl, MB2⟩
 refine Be (.store sizeOf117 (.t rfl) (.t rfl) rfl MB2.blk cQ) ?_
 intro w3 LB2
 have NB2 := MB2.set LB2
 replace hS := hS.Bn NB2
 refine Ao (Af (Ab rfl (I (.nc rfl) (I (.fB 1 rfl) (I (.fB 0 rfl) (I (.lb rfl (qA (hE.T9 hS.fr hEn) h0)) (I (.Di underlying25 (.t rfl)) (I (.move (.const _)) (Ai (An (A8 (σ := Nat) (fun s w => (s ≤ kb.Processes.length) ∧ (Wx.Sep (Cu [Mk.A4 Ca bd (D.map DE.kv)]) w0 w [Mk.A4 Ca bd ((O6 D (kb.Processes.take s)).map DE.kv), Mk.A4 Ca M8 ((G9 (kb.Processes.take s)).map Jf), Cc B2 #[.map (some M8)] 117])) (fun s => [(15, .eq (vi (s : Int)))]) ([(0, .eq _), (2, .eq _), (13, .eq _), (14, .eq _)]) (fun s => kb.Processes.length - s) 0 ?_ tQ ?_)))))))))))
 ·exact ⟨Nat.zero_le _, hS⟩
 rintro i w4 ⟨hi, hS⟩
 refine Af (I (.l2 rfl rfl) (Ao (CW.b rfl (fun h16 => ?_) (fun h16 => ?_))))
 ·replace h16 := dQ h16
  refine Aj (Ac (Am (An (Am ?_))))
  have hil : i < kb.Processes.length := by omega
  obtain ⟨x, hx⟩ : ∃ x, kb.Processes[i]? = some x := ⟨_, List.getElem?_eq_getElem hil⟩
  obtain ⟨Bx, ox, ax, hcx⟩ := (Els.fr hEp hS.fr (fun B o ea hs => by obtain ⟨A_, hA_, hf_⟩ := hs; cases List.mem_singleton.1 hA_; exact hPb (fun e => by rw [e] at hil; simp at hil) B o ea hf_)) i x hx
  have hgo := hok x (List.mem_of_getElem? hx)
  refine Aa (I (.Av underlying25 sizeOf28 (j := i) (.t rfl) (.t rfl) oQ ax) (I (.lc rfl (hcx)) (Al (.Bm zeroValue28) rfl ?_)))
  rintro _ w5 ⟨B4, rfl, MB4⟩
  refine Be (.Bi sizeOf28 rfl (.t rfl) (.t rfl) (Fact.one _) MB4.blk rfl) ?_
  intro w6 LB4
  have NB4 := MB4.set LB4
  replace hS := hS.Bn NB4
  refine Ao (Aa (I (.lc rfl (hS.b3.agg)) (A3 (eC (.o rfl) (wW)) rfl (iC x _) ?_)))
  rintro _ w7 ⟨rfl, uw7⟩
  replace hS := hS.up uw7
  refine Al (.Bm zeroValue123) rfl ?_
  rintro _ w8 ⟨B5, rfl, MB5⟩
  refine Be (.Bi sizeOf123 rfl (.t rfl) (.t rfl) (Grp.one _) MB5.blk rfl) ?_
  intro w9 LB5
  have NB5 := MB5.set LB5
  replace hS := hS.Bn NB5
  refine Ao (Aa (I (.lb rfl (hS.b2.Ah rfl)) (I (.lc rfl (hS.b4.agg)) (I (.build (cs := #[]) underlying111 zeroValue111 I7 .nil rfl) (Be (Mk.SEv.mapUpdate (Q := Ca) underlying117 Jz hgo (.t rfl) (.t rfl) (.t rfl) (hS.get 1 rfl)) ?_)))))
  rintro w10 ⟨Mu, Ku, zu⟩
  rw [Zu] at Mu
  replace hS := hS.Ez 1 rfl (Mk.Hv Mu Ku)
  refine Ao ?_
  cases hq6 : decide (Ig x ∈ (O6 D (kb.Processes.take i)).map (·.g)) with
  | true =>
   replace hq6 := of_decide_eq_true hq6
   obtain ⟨e6, he6, hg6⟩ := List.mem_map.1 hq6
   refine C5 kQ kQ rfl rfl (U (.mv rfl) (U (.nc rfl) (U (.fB 12 rfl) (U (.lb rfl ((hE.T9 hS.fr hEn).cell (Nq hbc))) (U (.lc rfl (hS.b4.agg)) (U (Mk.PEv.D0 (Q := Ca) (ok := true) (v := e6.v) underlying105 Jz hgo (.t rfl) (.t rfl) (hS.get 0 rfl) (List.mem_map.2 ⟨e6, he6, by unfold DE.kv; rw [hg6]⟩)) (U (.mv rfl) (U (.xt rfl rfl) (U (.tr (PEv.xt rfl rfl) (rfl)) (U (.assign (.t rfl)) (U (.assign (.t rfl)) (HW.nil ?_))))))))))))
   intro w11 uw11
   replace hS := hS.up uw11
   refine Ac (Af (Ab rfl (I (.n1 rfl) (Ai (CW.f rfl (Aj (Ae (Ac (Aa (I (.ic rfl oQ) (Ab rfl (LW.nil (Ar ?_)))))))))))))
   exact ⟨i + 1, ⟨by omega, by rw [To hx, V8 hx]; (rw [qI hq6]; exact hS.take 3)⟩, tQ, by omega⟩
  | false =>
   replace hq6 := of_decide_eq_false hq6
   refine C5 kQ kQ rfl rfl (U (.mv rfl) (U (.nc rfl) (U (.fB 12 rfl) (U (.lb rfl ((hE.T9 hS.fr hEn).cell (Nq hbc))) (U (.lc rfl (hS.b4.agg)) (U (Mk.PEv.Gf (Q := Ca) (ok := true) underlying105 Jz hgo zeroValue32 (.t rfl) (.t rfl) (hS.get 0 rfl) (by rw [O5]; exact hq6)) (U (.mv rfl) (U (.xt rfl rfl) (U (.fa (PEv.xt rfl rfl) (rfl)) (U (.assign (.t rfl)) (U (.assign (.t rfl)) (HW.nil ?_))))))))))))
   intro w12 uw12
   replace hS := hS.up uw12
   refine Ac (Af (Ab rfl (I (.n1 rfl) (Ai (CW.v rfl (Ew 5 kQ kQ kQ kQ kQ rfl rfl (U (.mv rfl) (U (.nc rfl) (U (.fB 12 rfl) (U (.lb rfl ((hE.T9 hS.fr hEn).cell (Nq hbc))) (U (.lc rfl (hS.b4.agg)) (HW.nil ?_))))))))))))
   intro w13 uw13
   replace hS := hS.up uw13
   refine Be (Mk.SEv.mapUpdate (Q := Ca) underlying105 Jz hgo (.t rfl) (.t rfl) (.const _) (hS.get 0 rfl)) ?_
   rintro w14 ⟨Mu, Ku, zu⟩
   rw [lC hq6] at Mu
   replace hS := hS.Ez 0 rfl (Mk.Hv Mu Ku)
   refine LW.nil (Ae (Ac (Aa (I (.ic rfl oQ) (Ab rfl (LW.nil (Ar ?_)))))))
   exact ⟨i + 1, ⟨by omega, by rw [To hx, V8 hx]; exact hS.take 3⟩, tQ, by omega⟩
 replace h16 := dQ h16
 refine Bl (Ad (Ad (Aq (Ac ?_))))
 have hie : i = kb.Processes.length := by omega
 rw [hie, List.take_length] at hS
 have okR : ∀ g, g ∈ ((O6 D kb.Processes).map DE.kv).map (·.1) → g.ok := fun g hg => by obtain ⟨q, hq, rfl⟩ := List.mem_map.1 hg; exact JW (hS.get 0 rfl) hq
 refine Aa (Ab rfl (I (.nc rfl) (I (.fB 12 rfl) (I (.lb rfl ((hE.T9 hS.fr hEn).cell (Nq hbc))) (I (.makeFunc (.cu rfl)) (A3 (eC (.u rfl rfl) (CG)) rfl (qW 113 _ (fun g => decide (g ∈ G9 kb.Processes)) CH bd _ _ (hS.get 0 rfl) (fun W hW g hg u => qX g u B2 M8 _ W (okR g hg) (hS.b2.T9 hW (fun e => qG hS (show 0 < 2 by decide) rfl rfl bd rfl (Eq.symm e))) (qH (hS.get 1 rfl) hW (fun e => qG hS (show 0 < 1 by decide) rfl rfl bd rfl (Eq.symm e))))) ?_))))))
 rintro _ w15 ⟨rfl, uw15⟩
 replace hS := hS.Ez 0 rfl uw15
 refine LW.nil (C7 rfl ⟨_, rfl, ?_⟩)
 rw [vC] at hS
 exact ⟨rfl, hS.take 1⟩
theorem We {n : Nat} {ds : List Deferred} {l : Env} {w : World} {d : Option Tmp} {ty : TypeId} {ps : String} {af : Array Edge} {g : Option (Nat × Bool)} {mo x : Operand} {b : Nat} {k : List UInt8} {m : Dg} (hm : Val l mo (.map (some b))) (hx : Val l x (Ms.vs k)) (h : Ms.IMap w b (Ev m)) :
   PEv Tryz.prog n ds l w ⟨d, .lookup 104 mo x false, ty, ps, af, g⟩ (.agg (H5 m k).cells) := by
 unfold H5
 cases hg : Eb m k with
 | some f => exact Ms.PEv.D0 (ok := false) (v := .agg f.cells) underlying104 underlying9 hm hx h (L6 hg)
 | none => exact Ms.PEv.Gf (ok := false) underlying104 underlying9 zeroValue28 hm hx h (Kb hg)
theorem lL (k : Int) : (qU k = .nilFunc ∧ ∀ kb f g, f.Kind = k → Eg kb f g = false) ∨ ∃ cf, qU k = .func (.func cf) #[] #[] ∧ (∀ args w, (callFunc cf args).run Tryz.prog w = .ok (.enter cf args) w) ∧ ∀ (f : Fact) (E bf bd bs : Nat) (bc : Array Go.Value) (n : Int) (kv : List (Grp × Go.Value)) (St : List Grp) (w : World) (_ : Blk w E (EC bf bc bd n) 107) (_ : bc.size = 11) (_ : ¬ Cu [Mk.A4 Ca bd kv, Mk.A4 Ca bs (List.map Jf St)] E) (_ : Wx.Sep (Cu [Mk.A4 Ca bd kv, Mk.A4 Ca bs (List.map Jf St)]) w w [Mk.A4 Ca bd kv, Mk.A4 Ca bs (List.map Jf St)]) (kb : Base) (_ : BaseC w bc kb) (_ : kb.Processes.length ≤ 100000), f.Kind = k → f.Gone = false → Ret Tryz.prog cf (#[.agg #[.pointer (some ⟨E, 0, none⟩), .map (some bs)], .agg f.cells] ++ #[]) w fun r w' => ∃ St', r = .tuple #[] ∧ Wx.Sep (Cu [Mk.A4 Ca bd kv, Mk.A4 Ca bs (List.map Jf St)]) w w' [Mk.A4 Ca bd kv, Mk.A4 Ca bs (List.map Jf St')] ∧ ∀ g, g ∈ St' ↔ g ∈ St ∨ (g ∈ kv.map (·.1) ∧ Eg kb f g = true) := by
 rcases yI k with (rfl | rfl | rfl | rfl) | hkn
 · refine .inr ⟨114, rfl, wX, fun f E bf bd bs bc n kv St w hE hbc hEn hS0 kb hC hkb hk hg => (Qo f E bf bd bs bc n kv St w hE hbc hEn hS0).mono fun r w' h => ?_⟩
   obtain ⟨St', h1, h2, h3⟩ := h
   exact ⟨St', h1, h2, fun g => by rw [h3 g]; unfold Eg; rw [hk, hg]; rfl⟩
 · refine .inr ⟨115, rfl, CI, fun f E bf bd bs bc n kv St w hE hbc hEn hS0 kb hC hkb hk hg => (Z3 f E bf bd bs bc n kv St w hE hbc hEn hS0 kb hC hkb).mono fun r w' h => ?_⟩
   obtain ⟨St', h1, h2, h3⟩ := h
   exact ⟨St', h1, h2, fun g => by rw [h3 g]; unfold Eg; rw [hk, hg]; rfl⟩
 · refine .inr ⟨116, rfl, CJ, fun f E bf bd bs bc n kv St w hE hbc hEn hS0 kb hC hkb hk hg => (lK f E bf bd bs bc n kv St w hE hbc hEn hS0).mono fun r w' h => ?_⟩
   obtain ⟨St', h1, h2, h3⟩ := h
   exact ⟨St', h1, h2, fun g => by rw [h3 g]; unfold Eg; rw [hk, hg]; rfl⟩
 · refine .inr ⟨117, rfl, CK, fun f E bf bd bs bc n kv St w hE hbc hEn hS0 kb hC hkb hk hg => (dK f E bf bd bs bc n kv St w hE hbc hEn hS0).mono fun r w' h => ?_⟩
   obtain ⟨St', h1, h2, h3⟩ := h
   exact ⟨St', h1, h2, fun g => by rw [h3 g]; unfold Eg; rw [hk, hg]; rfl⟩
 refine .inl ⟨iD hkn, fun kb f g hk => ?_⟩
 obtain ⟨h1, h2, h3, h4⟩ := hkn
 unfold Eg
 rw [hk, if_neg h1, if_neg h2, if_neg h3, if_neg h4, Bool.and_false]
def aL (e : DE) : Asr := Dt [J 44 6 DP.cells e.v e.L, Dt (Ek 3 e.L)]
def K7 (D : List DE) : Asr := Dt (D.map aL)
theorem qY (g : Grp) : ∀ i, ¬ (aL (AQ g)).foot i := by
 rintro i ⟨A, hA, hi⟩
 simp only [List.mem_cons, List.mem_nil_iff, or_false] at hA
 rcases hA with rfl | rfl
 · cases hi
 obtain ⟨B, hB, _⟩ := hi
 cases hB
theorem lM (g : Grp) (w : World) : (aL (AQ g)).holds w := by
 refine ⟨fun A hA => ?_, ?_⟩
 · simp only [List.mem_cons, List.mem_nil_iff, or_false] at hA
   rcases hA with rfl | rfl
   · exact OwnS.nil _ _ _ _ _
   exact ⟨fun _ h => (by cases h), List.Pairwise.nil⟩
 refine List.pairwise_pair.2 fun _ hi => by cases hi
theorem vO {D D' : List DE} {w : World} (h : D'.Sublist D) (hD : (K7 D).holds w) : Stp (K7 D) (K7 D') w w :=
 ⟨Fr.refl _ _, ⟨fun A hA => hD.1 A ((h.map aL).subset hA), hD.2.sublist (h.map aL)⟩, fun _ ⟨A, hA, hi⟩ => .inl ⟨A, (h.map aL).subset hA, hi⟩⟩
theorem iE {D : List DE} {w : World} (g : Grp) (hD : (K7 D).holds w) : Stp (K7 D) (K7 (Nr D g)) w w := by
 unfold Nr
 split
 · exact Stp.refl hD
 refine ⟨Fr.refl _ _, ⟨fun A hA => ?_, ?_⟩, fun i ⟨A, hA, hi⟩ => ?_⟩
 · rw [List.map_append] at hA
   rcases List.mem_append.1 hA with h | h
   · exact hD.1 A h
   rw [List.map_singleton, List.mem_singleton] at h; subst h; exact lM g w
 · rw [List.map_append]
   refine List.pairwise_append.2 ⟨hD.2, List.pairwise_singleton _ _, fun A _ B hB i _ hi => ?_⟩
   rw [List.map_singleton, List.mem_singleton] at hB
   subst hB
   exact qY g i hi
 rw [List.map_append] at hA
 rcases List.mem_append.1 hA with h | h
 · exact .inl ⟨A, h, hi⟩
 rw [List.map_singleton, List.mem_singleton] at h; subst h; exact absurd hi (qY g i)
theorem vP {D : List DE} {w : World} (l : List Fact) (hD : (K7 D).holds w) : Stp (K7 D) (K7 (O7 D l)) w w := by
 have key : ∀ (l : List Fact) (D : List DE), (K7 D).holds w → Stp (K7 D) (K7 (O6 D l)) w w := by
   intro l
   induction l with
   | nil => exact fun D h => Stp.refl h
   | cons x l ih => exact fun D h => (iE (Ig x) h).trans (ih _ (iE (Ig x) h).holds)
 exact (key l D hD).trans (vO List.filter_sublist (key l D hD).holds)
theorem vR {D : List DE} {w w' : World} {j : Nat} {e e' : DE} (hD : (K7 D).holds w) (hj : D[j]? = some e) (u : Up w w') (h : (aL e').holds w') (hn : ∀ i, (aL e').foot i → w.heap.size ≤ i) : Stp (K7 D) (K7 (D.set j e')) w w' := by
 have := Ss hD (j := j) (A := aL e) (by rw [List.getElem?_map, hj]; rfl) (A' := aL e') ⟨u.fr _, h, fun i hi => .inr (hn i hi)⟩
 rwa [← List.map_set] at this
end Go.Proofs.YtgjogglfnkgapaaGreatDoor
namespace Go.Wx
open Go.RowKit
section
variable {R : Option Nat} {m : Nat} {P : Program} {n : Nat} {ds : List Deferred} {Q : Exit → Go.Act → World → Prop} {l : Env} {w : World} {ops : Array Oper}
def Tw (ops : Array Oper) (k : Nat) : Bool :=
 (List.range ops.size).all fun i => !Nat.ble (k + 1) i || (match ops[i]? with | none => false | some o => o.after.any fun e => Region.binds .any e && Nat.ble k e.on)
theorem Z6 {k : Nat} (h : Tw ops k = true) {i : Nat} {o : Oper} (ho : ops[i]? = some o) (hk : k < i) : ∃ e ∈ o.after, Region.binds .any e = true ∧ k ≤ e.on := by
 have hi : i < ops.size := (Array.getElem?_eq_some_iff.1 ho).1
 have h1 := List.all_eq_true.1 h i (List.mem_range.2 hi)
 have hb : Nat.ble (k + 1) i = true := Nat.ble_eq_true_of_le hk
 simp only [ho, hb, Bool.not_true, Bool.false_or] at h1
 obtain ⟨e, he, hh⟩ := Array.any_eq_true.1 h1
 simp only [Bool.and_eq_true] at hh
 exact ⟨_, Array.getElem_mem he, hh.1, Nat.le_of_ble_eq_true hh.2⟩
theorem dM {w0 : World} {base : Env} (s : Nat) (hss : s ≤ ops.size) (hok : U3 n ops = true) (E : Nat → Env) (hE0 : E s = [])
   (hE : ∀ (i : Nat) (o : Oper), s ≤ i → ops[i]? = some o → ∃ ph d, o.dst = some d ∧ phUp ph ∧ sA P n ds ops w0 (Bq (o.looksAt ops) (E i) ++ base) o ph ∧ E (i + 1) = (d, ph) :: E i)
   (hbase : ∀ i ph, lk base i = some ph → phUp ph ∧ ∀ (j : Nat) (o : Oper), s ≤ j → ops[j]? = some o → o.dst ≠ some i)
   (hQ : ∀ a w, Up w0 w → Ag n ds (E ops.size ++ base) a w → Q .normal a w) :
   ∀ (fuel : Nat) (listed : Array Bool) (a : Act) (w : World), listed.size = ops.size → listed.toList.countP (· == false) ≤ fuel → (∀ j, j < s → listed.getD j false = true) → Up w0 w → Ag n ds base a w →
     (∀ (j : Nat) (o : Oper) (d : Nat) (ph : Ph), s ≤ j → ops[j]? = some o → o.dst = some d → E (j + 1) = (d, ph) :: E j → listed.getD j false = true → ph.holds (a.tmps.getD d undef) w) →
     wpAnyIn (FR R) m P .any ops Q fuel listed a w := by
 -- a slot of a part of E comes of an operation ahead
 have hEl : ∀ k i ph, s ≤ k → k ≤ ops.size → lk (E k) i = some ph → ∃ j o, s ≤ j ∧ j < k ∧ ops[j]? = some o ∧ o.dst = some i ∧ E (j + 1) = (i, ph) :: E j := by
   intro k
   induction k with
   | zero => intro i ph hs0 _ h; rw [show 0 = s by omega, hE0] at h; cases h
   | succ k ih =>
     intro i ph hsk hk h
     by_cases es : s = k + 1
     · rw [← es, hE0] at h; cases h
     have hko : ops[k]? = some ops[k] := by simp [show k < ops.size by omega]
     obtain ⟨q, d, hd, _, _, he⟩ := hE k _ oQ hko
     rw [he] at h
     by_cases e : i = d
     · subst e
       rw [Bh] at h
       cases h
       exact ⟨k, _, by omega, by omega, hko, hd, he⟩
     rw [Bj e] at h
     obtain ⟨j, o, h0, h1, h2⟩ := ih i ph oQ oQ h
     exact ⟨j, o, h0, by omega, h2⟩
 have hall : ∀ (listed : Array Bool), listed.size = ops.size → Region.ready .any ops listed = [] → ∀ i, i < ops.size → listed.getD i false = true := by
   intro listed hs hr i
   induction i using Nat.strongRecOn with
   | _ i ih =>
     intro hi
     cases hb : listed.getD i false with
     | true => rfl
     | false =>
       exfalso
       have hmem : i ∈ Region.ready .any ops listed := by
         unfold Region.ready
         rw [List.mem_filter]
         refine ⟨List.mem_range.2 hi, ?_⟩
         have hio : ops[i]? = some ops[i] := by simp [hi]
         have hlt : i < listed.size := by omega
         have hb' : listed.getD i true = false := by
           rw [Array.getD_eq_getD_getElem?] at hb ⊢
           simp only [hlt, Array.getElem?_eq_getElem, Option.getD_some] at hb ⊢
           exact hb
         simp only [hb', Bool.not_false, hio, Option.map_some, Option.getD_some, Bool.true_and]
         refine Array.all_eq_true_iff_forall_mem.2 fun e he => ?_
         cases hbe : Region.binds .any e with
         | false => rfl
         | true =>
           have := (I4 hok hio).2.1 e he hbe
           simp [ih e.on this (by omega)]
       rw [hr] at hmem
       cases hmem
 have hdone : ∀ (listed : Array Bool) (a : Act) (w : World), listed.size = ops.size → Region.ready .any ops listed = [] → Up w0 w → Ag n ds base a w →
     (∀ (j : Nat) (o : Oper) (d : Nat) (ph : Ph), s ≤ j → ops[j]? = some o → o.dst = some d → E (j + 1) = (d, ph) :: E j → listed.getD j false = true → ph.holds (a.tmps.getD d undef) w) → Q .normal a w := by
   intro listed a w hs hr hu ha hI
   refine hQ a w hu ⟨ha.defers, ha.size, fun i ph hi => ?_⟩
   rcases Cy hi with h | h
   · obtain ⟨j, o, hsj, hj, ho, hd, he⟩ := hEl _ _ _ hss (Nat.le_refl _) h
     exact hI j o i ph hsj ho hd he (hall listed hs hr j hj)
   exact ha.val i ph h
 intro fuel
 induction fuel with
 | zero =>
   intro listed a w hs hc hlo hu ha hI
   have hnone : ∀ i, i < ops.size → listed.getD i false = true := by
     intro i hi
     have h0 : listed.toList.countP (· == false) = 0 := by omega
     rw [List.countP_eq_zero] at h0
     have hlt : i < listed.size := by omega
     have := h0 listed[i] (by simp)
     rw [Array.getD_eq_getD_getElem?]
     simp only [hlt, Array.getElem?_eq_getElem, Option.getD_some]
     simpa using this
   have hr : Region.ready .any ops listed = [] := by
     unfold Region.ready
     rw [List.filter_eq_nil_iff]
     intro i hi
     have hi' := List.mem_range.1 hi
     have h1 := hnone i hi'
     have hlt : i < listed.size := by omega
     have : listed.getD i true = true := by
       rw [Array.getD_eq_getD_getElem?] at h1 ⊢
       simp only [hlt, Array.getElem?_eq_getElem, Option.getD_some] at h1 ⊢
       exact h1
     simp [this]
   exact ⟨hr, hdone listed a w hs hr hu ha hI⟩
 | succ fuel ih =>
   intro listed a w hs hc hlo hu ha hI
   refine ⟨fun hr => hdone listed a w hs hr hu ha hI, fun i hi => ?_⟩
   unfold Region.ready at hi
   rw [List.mem_filter] at hi
   obtain ⟨hir, hi2⟩ := hi
   have hi' : i < ops.size := List.mem_range.1 hir
   have hio : ops[i]? = some ops[i] := by simp [hi']
   generalize ops[i] = o at hio
   simp only [Bool.and_eq_true, hio, Option.map_some, Option.getD_some] at hi2
   obtain ⟨hb, hed⟩ := hi2
   have hlt : i < listed.size := by omega
   have hbi : listed[i] = false := by
     rw [Array.getD_eq_getD_getElem?] at hb
     simp only [hlt, Array.getElem?_eq_getElem, Option.getD_some] at hb
     simpa using hb
   have hsi : s ≤ i := by
     rcases Nat.lt_or_ge i s with h | h
     · have h1 := hlo i h
       rw [Array.getD_eq_getD_getElem?] at h1
       simp only [hlt, Array.getElem?_eq_getElem, Option.getD_some] at h1
       rw [hbi] at h1; cases h1
     exact h
   obtain ⟨hd0, hon, hpair⟩ := I4 hok hio
   obtain ⟨ph, d, hd, hup, hop, hEi⟩ := hE i o hsi hio
   have hdn : d < n := by obtain ⟨d', h1, h2⟩ := hd0; rw [hd] at h1; cases h1; exact h2
   -- what the operation looks at is known
   have hag : Ag n ds (Bq (o.looksAt ops) (E i) ++ base) a w := by
     refine ⟨ha.defers, ha.size, fun t q ht => ?_⟩
     rcases Cy ht with h | h
     · obtain ⟨h1, h2⟩ := Dv h
       obtain ⟨j, p, hsj, hj, hp, hpd, hEj⟩ := hEl _ _ _ hsi oQ h2
       obtain ⟨e, he, hbe, hon'⟩ := (hpair j p hp).2 t hpd h1
       have := Array.all_eq_true_iff_forall_mem.1 hed e he
       rw [hbe, hon'] at this
       exact hI j p t q hsj hp hpd hEj (by simpa using this)
     exact ha.val t q h
   have step : ∀ v w', Up w w' → ph.holds v w' → wpAnyIn (FR R) m P .any ops Q fuel (listed.setIfInBounds i true) (a.put o.dst v) w' := by
     intro v w' hu' hv
     have hcnt : (listed.setIfInBounds i true).toList.countP (· == false) ≤ fuel := by
       rw [Array.toList_setIfInBounds, List.countP_set (by simpa using hlt)]
       have hpos : 0 < listed.toList.countP (· == false) := List.countP_pos_iff.2 ⟨listed[i], by simp, by simp [hbi]⟩
       have e1 : (listed.toList[i]'(by simpa using hlt) == false) = true := by simp [hbi]
       rw [if_pos e1, if_neg (by simp)]
       omega
     refine ih _ _ _ (by simpa using hs) hcnt (fun j hj => by rw [C8 hlt, if_neg (by omega)]; exact hlo j hj) (hu.trans hu') ?_ ?_
     · refine ⟨by rw [hd]; exact ha.defers, by rw [hd]; simp [Act.put, ha.size], fun t q ht => ?_⟩
       have hne : t ≠ d := fun e => (hbase t q ht).2 i o hsi hio (by rw [hd, e])
       rw [hd, Cw hne]
       exact (hbase t q ht).1 _ _ _ (ha.val t q ht) hu'
     intro j p d' q hsj hp hpd hEj hl
     by_cases e : j = i
     · subst e
       rw [hio] at hp
       cases hp
       rw [hd] at hpd
       cases hpd
       rw [hEi] at hEj
       cases hEj
       rw [hd, Du (by rw [ha.size]; exact hdn)]
       exact hv
     have hne : d' ≠ d := fun ee => (hpair j p hp).1 (fun ee => e ee.symm) (by rw [hd, hpd, ee])
     rw [hd, Cw hne]
     obtain ⟨q', d'', hd'', hup', _, hEj'⟩ := hE j p hsj hp
     rw [hEj] at hEj'
     cases hEj'
     have hl' : listed.getD j false = true := by
       rw [Array.getD_eq_getD_getElem?, Array.getElem?_setIfInBounds_ne (fun ee => e ee.symm)] at hl
       rw [Array.getD_eq_getD_getElem?]; exact hl
     exact hup' _ _ _ (hI j p d' q hsj hp hpd hEj hl') hu'
   have h2 := hop a w hu hag
   unfold wpOpIn
   rw [hio]
   dsimp only
   by_cases hw : Region.wanted o (yielded ops a.tmps) = true
   · rw [if_pos hw] at h2 ⊢
     exact Hw h2 fun v w' ⟨h3, h4⟩ => step v w' h3 h4
   rw [if_neg hw] at h2 ⊢
   exact ⟨fun _ _ => trivial, step _ _ (Up.refl w) h2⟩
theorem lN {k : Nat} {w0 : World} {base : Env} {dh : Nat} {oh : Oper} {PostH : Value → World → Prop} (hok : U3 n ops = true) (hC : Fh ops k = true) (hB : Tw ops k = true) (hkk : k < ops.size) (E : Nat → Env) (hE0 : E 0 = [])
   (hE : ∀ (i : Nat) (o : Oper), i < k → ops[i]? = some o → ∃ ph d, o.dst = some d ∧ phUp ph ∧ sA P n ds ops w0 (Bq (o.looksAt ops) (E i) ++ base) o ph ∧ E (i + 1) = (d, ph) :: E i)
   (hbp : Cf base = true) (hbase : ∀ i ph, lk base i = some ph → ∀ (j : Nat) (o : Oper), ops[j]? = some o → o.dst ≠ some i)
   (hoh : ops[k]? = some oh) (hdh : oh.dst = some dh) (hgh : oh.guard = none)
   (hH : ∀ a w, Up w0 w → Ag n ds (Bq (oh.looksAt ops) (E k) ++ base) a w → aO P oh a w PostH)
   (hQ : ∀ v w1, PostH v w1 → ∃ E2 : Nat → Env, E2 (k + 1) = [] ∧ (∀ (i : Nat) (o : Oper), k + 1 ≤ i → ops[i]? = some o → ∃ ph d, o.dst = some d ∧ phUp ph ∧ sA P n ds ops w1 (Bq (o.looksAt ops) (E2 i) ++ ((dh, .eq v) :: (Dz (E k) ++ base))) o ph ∧ E2 (i + 1) = (d, ph) :: E2 i) ∧
     ∀ a w, Up w1 w → Ag n ds (E2 ops.size ++ ((dh, .eq v) :: (Dz (E k) ++ base))) a w → Q .normal a w) :
   ∀ (fuel : Nat) (listed : Array Bool) (a : Go.Act) (w : World), listed.size = ops.size → listed.toList.countP (· == false) ≤ fuel → (∀ j, k ≤ j → j < ops.size → listed.getD j false = false) → Dn ops listed → Up w0 w → Ag n ds base a w →
     (∀ (j : Nat) (o : Oper) (d : Nat) (ph : Ph), j < k → ops[j]? = some o → o.dst = some d → E (j + 1) = (d, ph) :: E j → listed.getD j false = true → ph.holds (a.tmps.getD d undef) w) →
     wpAnyIn (FR R) m P .any ops Q fuel listed a w := by
 have hA : D7 ops = true := by
   refine List.all_eq_true.2 fun i hi => ?_
   have hi' := List.mem_range.1 hi
   have hio : ops[i]? = some ops[i] := by simp [hi']
   rw [hio]
   dsimp only
   refine Array.all_eq_true_iff_forall_mem.2 fun e he => ?_
   cases hb : Region.binds .any e with
   | false => rfl
   | true => simpa using Nat.ble_eq_true_of_le ((I4 hok hio).2.1 e he hb)
 have hE' : ∀ (i : Nat) (o : Oper), i < k → ops[i]? = some o → ∃ ph d, o.dst = some d ∧ E (i + 1) = (d, ph) :: E i := fun i o hi ho => let ⟨ph, d, h1, _, _, h2⟩ := hE i o hi ho; ⟨ph, d, h1, h2⟩
 have hDP := Qc hE0 hE' oQ
 have hEl : ∀ c i ph, c ≤ k → lk (E c) i = some ph → ∃ j o, j < c ∧ ops[j]? = some o ∧ o.dst = some i ∧ E (j + 1) = (i, ph) :: E j := by
   intro c
   induction c with
   | zero => intro i ph _ h; rw [hE0] at h; cases h
   | succ c ih =>
     intro i ph hk h
     have hko : ops[c]? = some ops[c] := by simp [show c < ops.size by omega]
     obtain ⟨q, d, hd, _, _, he⟩ := hE c _ oQ hko
     rw [he] at h
     by_cases e : i = d
     · subst e
       rw [Bh] at h
       cases h
       exact ⟨c, _, by omega, hko, hd, he⟩
     rw [Bj e] at h
     obtain ⟨j, o, h1, h2⟩ := ih i ph oQ h
     exact ⟨j, o, by omega, h2⟩
 intro fuel
 induction fuel with
 | zero =>
   intro listed a w hs hc hno hD hu ha hI
   exfalso
   have h0 : listed.toList.countP (· == false) = 0 := by omega
   rw [List.countP_eq_zero] at h0
   have hlt : k < listed.size := by omega
   have := h0 listed[k] (by simp)
   have h1 := hno k (Nat.le_refl _) hkk
   rw [Array.getD_eq_getD_getElem?] at h1
   simp only [hlt, Array.getElem?_eq_getElem, Option.getD_some] at h1
   rw [h1] at this
   simp at this
 | succ fuel ih =>
   intro listed a w hs hc hno hD hu ha hI
   refine ⟨fun hr => ?_, fun i hi => ?_⟩
   · exfalso
     obtain ⟨i, hi⟩ := Km hA (k := k + 1) oQ hs k oQ (hno k (Nat.le_refl _) hkk)
     rw [hr] at hi
     cases hi
   obtain ⟨o, hio, hbi, hed⟩ := (Fg hs).1 hi
   have hi' : i < ops.size := (Array.getElem?_eq_some_iff.1 hio).1
   have hlt : i < listed.size := by omega
   have hik : i ≤ k := by
     rcases Nat.lt_or_ge k i with h | h
     · exfalso
       obtain ⟨e', he, hb, hon⟩ := Z6 hB hio h
       have h1 := hed e' he hb
       have h2 := Dx hA hio e' he hb
       rw [hno e'.on hon (by omega)] at h1
       cases h1
     exact h
   obtain ⟨hd0, _, hpair⟩ := I4 hok hio
   by_cases hkI : i = k
   · subst hkI
     rw [hoh] at hio
     cases hio
     have hdn : dh < n := by obtain ⟨d', h1, h2⟩ := hd0; rw [hdh] at h1; cases h1; exact h2
     have hag : Ag n ds (Bq (oh.looksAt ops) (E i) ++ base) a w := by
       refine ⟨ha.defers, ha.size, fun t q ht => ?_⟩
       rcases Cy ht with h | h
       · obtain ⟨h1, h2⟩ := Dv h
         obtain ⟨j, p, hj, hp, hpd, hEj⟩ := hEl _ _ _ (Nat.le_refl _) h2
         obtain ⟨e, he, hbe, hon'⟩ := (hpair j p hp).2 t hpd h1
         have := hed e he hbe
         exact hI j p t q hj hp hpd hEj (by rw [← hon']; exact this)
       exact ha.val t q h
     unfold wpOpIn
     rw [hoh]
     dsimp only
     have hw : Region.wanted oh (yielded ops a.tmps) = true := by simp [Region.wanted, hgh]
     rw [if_pos hw]
     refine Hw (hH a w hu hag) fun v w' hv => ?_
     obtain ⟨E2, h20, h2E, h2Q⟩ := hQ v w' hv
     have hne : ∀ t, (∃ j p, j ≠ i ∧ ops[j]? = some p ∧ p.dst = some t) → t ≠ dh := fun t ⟨j, p, hj, hp, hpd⟩ e => (hpair j p hp).1 (Ne.symm hj) (by rw [hdh, hpd, e])
     refine dM (w0 := w') (i + 1) oQ hok E2 h20 h2E (fun t ph ht => ?_) h2Q fuel _ _ _ (by simpa using hs) (J3 hlt hbi hc) (fun j hj => ?_) (Up.refl _) ⟨by rw [hdh]; exact ha.defers, by rw [hdh]; simp [Go.Act.put, ha.size], fun t q ht => ?_⟩ (fun j o d ph hsj hj _ _ hl => ?_)
     · by_cases e : t = dh
       · subst e
         rw [Bh] at ht
         cases ht
         exact ⟨fun _ _ _ h _ => h, fun j p hj hp hd => (hpair j p hp).1 oQ (by rw [hdh, hd])⟩
       rw [Bj e] at ht
       rcases Cy ht with h | h
       · obtain ⟨j, p, hj, hp, hpd, _, hpl⟩ := hDP _ _ _ (Nat.le_refl _) h
         exact ⟨fun _ _ _ h _ => hpl.holds h, fun j2 p2 hj2 hp2 hd2 => ((I4 hok hp).2.2 j2 p2 hp2).1 oQ (by rw [hpd, hd2])⟩
       exact ⟨fun _ _ _ hv _ => El hbp h hv, fun j2 p2 _ hp2 => hbase t ph h j2 p2 hp2⟩
     · rw [C8 hlt]
       split
       · rfl
       exact J2 hC hD hoh hed (i - j) j rfl oQ
     · by_cases e : t = dh
       · subst e
         rw [Bh] at ht
         cases ht
         show (((a.put oh.dst v).tmps.getD t undef) = v)
         rw [hdh, Du (by rw [ha.size]; exact hdn)]
       rw [Bj e] at ht
       rw [hdh, Cw e]
       rcases Cy ht with h | h
       · obtain ⟨j, p, hj, hp, hpd, hEj, hpl⟩ := hDP _ _ _ (Nat.le_refl _) h
         exact hpl.holds (hI j p t q hj hp hpd hEj (J2 hC hD hoh hed (i - j) j rfl oQ))
       exact El hbp h (ha.val t q h)
     rw [C8 hlt, if_neg oQ, hno j oQ (Array.getElem?_eq_some_iff.1 hj).1] at hl
     cases hl
   have hik : i < k := by omega
   obtain ⟨ph, d, hd, hup, hop, hEi⟩ := hE i o hik hio
   have hdn : d < n := by obtain ⟨d', h1, h2⟩ := hd0; rw [hd] at h1; cases h1; exact h2
   have hag : Ag n ds (Bq (o.looksAt ops) (E i) ++ base) a w := by
     refine ⟨ha.defers, ha.size, fun t q ht => ?_⟩
     rcases Cy ht with h | h
     · obtain ⟨h1, h2⟩ := Dv h
       obtain ⟨j, p, hj, hp, hpd, hEj⟩ := hEl _ _ _ oQ h2
       obtain ⟨e, he, hbe, hon'⟩ := (hpair j p hp).2 t hpd h1
       have := hed e he hbe
       exact hI j p t q oQ hp hpd hEj (by rw [← hon']; exact this)
     exact ha.val t q h
   have step : ∀ v w', Up w w' → ph.holds v w' → wpAnyIn (FR R) m P .any ops Q fuel (listed.setIfInBounds i true) (a.put o.dst v) w' := by
     intro v w' hu' hv
     refine ih _ _ _ (by simpa using hs) (J3 hlt hbi hc) ?_ (R3 hlt hio hed hD) (hu.trans hu') ?_ ?_
     · intro j hj hjs
       rw [C8 hlt, if_neg (by omega)]
       exact hno j hj hjs
     · refine ⟨by rw [hd]; exact ha.defers, by rw [hd]; simp [Go.Act.put, ha.size], fun t q ht => ?_⟩
       have hne : t ≠ d := fun e => hbase t q ht i o hio (by rw [hd, e])
       rw [hd, Cw hne]
       exact El hbp ht (ha.val t q ht)
     intro j p d' q hjk hp hpd hEj hl
     by_cases e : j = i
     · subst e
       rw [hio] at hp
       cases hp
       rw [hd] at hpd
       cases hpd
       rw [hEi] at hEj
       cases hEj
       rw [hd, Du (by rw [ha.size]; exact hdn)]
       exact hv
     have hne : d' ≠ d := fun ee => (hpair j p hp).1 (fun ee => e ee.symm) (by rw [hd, hpd, ee])
     rw [hd, Cw hne]
     obtain ⟨q', d'', hd'', hup', _, hEj'⟩ := hE j p hjk hp
     rw [hEj] at hEj'
     cases hEj'
     rw [C8 hlt, if_neg e] at hl
     exact hup' _ _ _ (hI j p d' q hjk hp hpd hEj hl) hu'
   have h2 := hop a w hu hag
   unfold wpOpIn
   rw [hio]
   dsimp only
   by_cases hw : Region.wanted o (yielded ops a.tmps) = true
   · rw [if_pos hw] at h2 ⊢
     exact Hw h2 fun v w' ⟨h3, h4⟩ => step v w' h3 h4
   rw [if_neg hw] at h2 ⊢
   exact ⟨fun _ _ => trivial, step _ _ (Up.refl w) h2⟩
theorem Xp {id : Nat} {opsL : List Oper} (k : Nat) {oh : Oper} {dh : Nat} (PostH : Value → World → Prop) (hm : P.follows .mixedOrders = true) (hok : U3 n opsL.toArray = true) (hC : Fh opsL.toArray k = true) (hB : Tw opsL.toArray k = true)
   (hl : Cf l = true) {base : Env} (hb : C0 (N1 opsL) l = base) (hoh : opsL[k]? = some oh) (hdh : oh.dst = some dh) (hgh : oh.guard = none)
   (h : HW P n ds opsL.toArray base w [] (opsL.take k) (fun env => (∀ a w', Up w w' → Ag n ds (Bq (oh.looksAt opsL.toArray) env ++ base) a w' → aO P oh a w' PostH) ∧
     ∀ v w1, PostH v w1 → HW P n ds opsL.toArray ((dh, .eq v) :: (Dz env ++ base)) w1 [] (opsL.drop (k + 1)) (fun env2 => ∀ w', Up w1 w' → KW n ds (Q .normal) (env2 ++ ((dh, .eq v) :: (Dz env ++ base))) w'))) : CW R m P n ds (.region id opsL.toArray true) Q l w := by
 intro a ha
 obtain ⟨E, hE0, hK, hE⟩ := Pd _ _ h
 subst hb
 have hkl : k < opsL.length := (List.getElem?_eq_some_iff.1 hoh).1
 have hlen : (opsL.take k).length = k := by rw [List.length_take]; omega
 rw [hlen] at hK
 have hbp : Cf (C0 (N1 opsL) l) = true := by
   have : ∀ (ks : List Nat) (l : Env), Cf l = true → Cf (C0 ks l) = true := by
     intro ks l
     induction l with
     | nil => intro _; rfl
     | cons p l ih =>
       obtain ⟨i, ph⟩ := p
       cases ph with
       | pred q => intro h; simp [Cf] at h
       | eq v => intro h; unfold C0; cases K9 ks i <;> simp [Cf] at h ⊢ <;> exact ih h
       | cond b v => intro h; unfold C0; cases K9 ks i <;> simp [Cf] at h ⊢ <;> exact ih h
   exact this _ _ hl
 refine wpIn_region_any hm (lN (w0 := w) (base := C0 (N1 opsL) l) (oh := oh) (PostH := PostH) hok hC hB (by rw [List.size_toArray]; omega) E hE0 (fun i o hik ho => hE i o (by rw [List.getElem?_take_of_lt hik]; simpa using ho)) hbp ?_ (by simpa using hoh) hdh hgh hK.1 ?_ _ _ _ _ (by simp) ?_ ?_ ?_ (Up.drew w) ?_ ?_)
 · intro i ph hi j o ho hd
   obtain ⟨h1, h2⟩ := Cx hi
   exact h1 (N2 (by have := List.mem_of_getElem? (l := opsL) (i := j) (by simpa using ho); exact this) hd)
 · intro v w1 hv
   obtain ⟨E2, h0, h1, h2⟩ := Pd _ _ (hK.2 v w1 hv)
   refine ⟨fun i => E2 (i - (k + 1)), by simpa using h0, fun i o hki ho => ?_, fun a' w' hu' ha' => ?_⟩
   · obtain ⟨ph, d, h3, h4, h5, h6⟩ := h2 (i - (k + 1)) o (by rw [List.getElem?_drop, Nat.add_sub_cancel' hki]; simpa using ho)
     exact ⟨ph, d, h3, h4, h5, by show E2 (i + 1 - (k + 1)) = (d, ph) :: E2 (i - (k + 1)); rw [← h6, show i + 1 - (k + 1) = i - (k + 1) + 1 by omega]⟩
   refine h1 w' hu' a' ?_
   rw [List.length_drop]
   simpa using ha'
 · have : (Array.replicate opsL.toArray.size false).toList.countP (· == false) ≤ (Array.replicate opsL.toArray.size false).toList.length := List.countP_le_length
   simpa using this
 · intro j _ _
   rw [Array.getD_eq_getD_getElem?, Array.getElem?_replicate]
   split <;> rfl
 · intro i o _ hli
   rw [Array.getD_eq_getD_getElem?, Array.getElem?_replicate] at hli
   split at hli <;> simp at hli
 · exact ⟨ha.defers, ha.size, fun i ph hi => El hl (Cx hi).2 (ha.val _ _ (Cx hi).2)⟩
 intro j o d ph _ ho hd _ hlj
 rw [Array.getD_eq_getD_getElem?, Array.getElem?_replicate] at hlj
 split at hlj <;> simp at hlj
end
end Go.Wx
namespace Go.Proofs.YtgjogglfnkgapaaGreatDoor
open Go.Proofs.Tryz
open Go.Wx Go.RowKit
theorem BA {g : Grp} {v : Go.Value} {L : List DP} {w w' : World} (h : Wx.Sep no w w' [J 44 6 DP.cells v L, Dt (Ek 3 L)]) : (aL ⟨g, v, L⟩).holds w' := ⟨fun A hA => (h.each A hA).1, h.apart⟩
theorem vS {g : Grp} {v : Go.Value} {L : List DP} {w w' : World} (h : Wx.Sep no w w' [J 44 6 DP.cells v L, Dt (Ek 3 L)]) : ∀ i, (aL ⟨g, v, L⟩).foot i → w.heap.size ≤ i := fun i ⟨A, hA, hi⟩ => ((h.each A hA).2 i hi).resolve_left (fun h => h)
set_option maxHeartbeats 4000000 in
theorem qZ (E bf bd : Nat) (bc : Array Go.Value) (nw : Int) (all : List Fact) (kb : Base) (D : List DE) (ad : Option Addr) (cp : Nat) (l : List Fact) (w : World) (hbc : bc.size = 11) (hnw : 0 ≤ nw ∧ nw ≤ 100000) (hl : (all ++ l).length ≤ 100) (hDg : (D.map (·.g)).Nodup) (hEl : Els w ad 19 Fact.cells l) (hLb : l ≠ [] → ∀ B o, ad = some ⟨B, o, none⟩ → ¬ Cu [Cc E (EC bf bc bd (nw)) 107, Ms.A4 bf (Ev (Az all 100000)), Gi bc kb, Mk.A4 Ca bd ((D).map DE.kv), K7 (D)] B) (hS0 : Wx.Sep (Cu [Cc E (EC bf bc bd (nw)) 107, Ms.A4 bf (Ev (Az all 100000)), Gi bc kb, Mk.A4 Ca bd ((D).map DE.kv), K7 (D)]) w w [Cc E (EC bf bc bd (nw)) 107, Ms.A4 bf (Ev (Az all 100000)), Gi bc kb, Mk.A4 Ca bd ((D).map DE.kv), K7 (D)]) : Ret prog 10 #[.pointer (some ⟨E, 0, none⟩), .slice ad l.length cp] w fun r w' => ((Gx (Az all 100000) l).2 = [] ∧ r = vi 0 ∧ Wx.Sep (Cu [Cc E (EC bf bc bd (nw)) 107, Ms.A4 bf (Ev (Az all 100000)), Gi bc kb, Mk.A4 Ca bd ((D).map DE.kv), K7 (D)]) w w' [Cc E (EC bf bc bd (nw)) 107, Ms.A4 bf (Ev (Az (all ++ l) 100000)), Gi bc kb, Mk.A4 Ca bd ((D).map DE.kv), K7 (D)]) ∨ (∃ (bc1 : Array Go.Value) (St : List Grp) (D2 : List DE), (Gx (Az all 100000) l).2 ≠ [] ∧ r = vi ((St.length : Nat) : Int) ∧ St.Nodup ∧ (∀ g, g ∈ St ↔ g ∈ (O7 D (D5 (all ++ l) 100000).Processes).map (·.g) ∧ ∃ k ∈ (Gx (Az all 100000) l).2, Qz (Az all 100000) (Az (all ++ l) 100000) (D5 (all ++ l) 100000) k g = true) ∧ D2.map (·.g) = (O7 D (D5 (all ++ l) 100000).Processes).map (·.g) ∧ (∀ e ∈ D2, (e.g ∈ St → dk (D5 (all ++ l) 100000) e) ∧ (e.g ∉ St → e ∈ O7 D (D5 (all ++ l) 100000).Processes)) ∧ bc1.size = 11 ∧ Wx.Sep (Cu [Cc E (EC bf bc bd (nw)) 107, Ms.A4 bf (Ev (Az all 100000)), Gi bc kb, Mk.A4 Ca bd ((D).map DE.kv), K7 (D)]) w w' [Cc E (EC bf bc1 bd (nw + ((St.length : Nat) : Int))) 107, Ms.A4 bf (Ev (Az (all ++ l) 100000)), Gi bc1 (D5 (all ++ l) 100000), Mk.A4 Ca bd ((D2).map DE.kv), K7 (D2)]) := by
 have hll : l.length ≤ 100 := by rw [List.length_append] at hl; omega
 obtain ⟨w0, rfl, _⟩ := W0 w
 have hS := hS0
 refine cT 139 func10 rfl (Af (Ay (Ao (Af (Ab rfl (I (.fa (Fx underlying29 (.t rfl)) (rfl)) (Ai (CW.f rfl (Aj (Ac (Af (Ab rfl (I (.nc rfl) (I (.fB 0 rfl) (I (.lb rfl (hS.b0.cell O3)) (A3 (eC (.o rfl) (IT)) rfl (dL bf _ _ (hS.get 1 rfl)) ?_))))))))))))))))
 rintro _ w1 ⟨b5, rfl, hBf, zb5, uw1⟩
 replace hS := hS.add uw1 (A' := Ms.A4 b5 (Ev (Az all 100000))) (hBf) (fun i (e : i = b5) => by rw [e]; exact zb5)
 refine LW.A rfl (Ao (Aa (LW.r Ms.REv.makeMap rfl rfl rfl rfl ?_)))
 rintro _ w2 ⟨M24, rfl, hMM, uw2, eM, zM⟩
 replace hS := hS.add uw2 (A' := Ms.A4 M24 ((Gx (Az all 100000) (l.take 0)).2.map lE)) hMM (fun i (e : i = M24) => by omega)
 refine LW.A rfl (Ao (Af (Ab rfl (I (.Di underlying25 (.t rfl)) (I (.move (.const _)) (Ai (An (A8 (σ := Nat) (fun s w => (s ≤ l.length) ∧ (Wx.Sep (Cu [Cc E (EC bf bc bd (nw)) 107, Ms.A4 bf (Ev (Az all 100000)), Gi bc kb, Mk.A4 Ca bd ((D).map DE.kv), K7 (D)]) w0 w [Cc E (EC bf bc bd (nw)) 107, Ms.A4 bf (Ev (Gx (Az all 100000) (l.take s)).1), Gi bc kb, Mk.A4 Ca bd ((D).map DE.kv), K7 (D), Ms.A4 b5 (Ev (Az all 100000)), Ms.A4 M24 (((Gx (Az all 100000) (l.take s)).2).map lE)])) (fun s => [(27, .eq (vi (s : Int)))]) ([(0, .eq _), (4, .eq _), (5, .eq _), (6, .eq _), (25, .eq _), (26, .eq _)]) (fun s => l.length - s) 0 ?_ tQ ?_))))))))
 ·exact ⟨Nat.zero_le _, hS⟩
 rintro i w3 ⟨hi, hS⟩
 refine Af (I (.l2 rfl rfl) (Ao (CW.b rfl (fun h28 => ?_) (fun h28 => ?_))))
 ·replace h28 := dQ h28
  refine Aj (Ac (Am (An (Am ?_))))
  have hil : i < l.length := by omega
  obtain ⟨x, hx⟩ : ∃ x, l[i]? = some x := ⟨_, List.getElem?_eq_getElem hil⟩
  obtain ⟨Bx, ox, ax, hcx⟩ := (Els.fr hEl hS.fr (fun B o ea => hLb (fun e => by rw [e] at hil; simp at hil) B o ea)) i x hx
  refine Aa (I (.Av underlying25 sizeOf28 (j := i) (.t rfl) (.t rfl) oQ ax) (I (.lc rfl (hcx)) (Al (.Bm zeroValue28) rfl ?_)))
  rintro _ w4 ⟨B8, rfl, MB8⟩
  refine Be (.Bi sizeOf28 rfl (.t rfl) (.t rfl) (Fact.one _) MB8.blk rfl) ?_
  intro w5 LB8
  have NB8 := MB8.set LB8
  replace hS := hS.Bn NB8
  refine Ao (Xp 5 (fun v W => ∃ ad3 k3 cp3, v = .slice ad3 k3 cp3 ∧ decide ((k3 : Int) > 0) = Jg (Gx (Az all 100000) (l.take i)).1 x ∧ Wx.Sep (Cu [Cc E (EC bf bc bd (nw)) 107, Ms.A4 bf (Ev (Az all 100000)), Gi bc kb, Mk.A4 Ca bd ((D).map DE.kv), K7 (D)]) w0 W [Cc E (EC bf bc bd (nw)) 107, Ms.A4 bf (Ev (Ck 100000 (Gx (Az all 100000) (l.take i)).1 x)), Gi bc kb, Mk.A4 Ca bd ((D).map DE.kv), K7 (D), Ms.A4 b5 (Ev (Az all 100000)), Ms.A4 M24 (((Gx (Az all 100000) (l.take i)).2).map lE), Cc B8 x.cells 28]) kQ kQ kQ kQ rfl rfl rfl rfl rfl (U (.mv rfl) (U (.nc rfl) (U (.fB 0 rfl) (U (.lb rfl (hS.b0.cell O3)) (U (.lc rfl ((hS.blk 7 rfl).agg)) (HW.nil ⟨fun a w' hu ha => ?_, ?_⟩)))))))
  ·skip
   refine .inr ⟨_, _, w', Ci (.ct rfl (.cu rfl)) (IU) a ha, (qV bf _ x _ ((hS.up hu).get 1 rfl)).mono fun v w'' h => ?_⟩
   obtain ⟨ad3, k3, cp3, h1, h2, h3⟩ := h
   exact ⟨ad3, k3, cp3, h1, h2, (hS.up hu).Ez 1 rfl h3⟩
  intro v36 w6
  rintro ⟨ad3, k3, cp3, rfl, hk3, hS⟩
  refine U (.Di underlying25 (.t rfl)) (U (.as (v' := .bool (Jg (Gx (Az all 100000) (l.take i)).1 x)) (PEv.gtr (.t rfl) (.const _)) (congrArg Go.Value.bool hk3)) (HW.nil ?_))
  intro w7 uw7
  replace hS := hS.up uw7
  refine Ac (CW.b rfl (fun h38 => ?_) (fun h38 => ?_))
  ·replace h38 := dQ h38
   refine Aa (Ab rfl (I (.lc rfl ((hS.blk 7 rfl).agg)) (A3 (eC (.o rfl) (mI)) rfl (Ol x _) ?_)))
   rintro _ w8 ⟨rfl, uw8⟩
   replace hS := hS.up uw8
   refine I (.build (cs := #[]) underlying111 zeroValue111 I7 .nil rfl) (Be (Ms.SEv.mapUpdate underlying109 underlying9 (.t rfl) (.t rfl) (.t rfl) (hS.get 6 rfl)) ?_)
   rintro w9 ⟨Mu, Ku, zu⟩
   rw [qJ] at Mu
   replace hS := hS.Ez 6 rfl (Ms.Hv Mu Ku)
   refine LW.nil (Ae (Ac (Aa (I (.ic rfl oQ) (Ab rfl (LW.nil (Ar ?_)))))))
   exact ⟨i + 1, ⟨by omega, by rw [V9 hx]; (rw [Zy h38]; exact hS.take 7)⟩, tQ, by omega⟩
  replace h38 := dQ h38
  refine Aj (Ae (Ac (Aa (I (.ic rfl oQ) (Ab rfl (LW.nil (Ar ?_)))))))
  exact ⟨i + 1, ⟨by omega, by rw [V9 hx]; (rw [gZ (by simpa using h38)]; exact hS.take 7)⟩, tQ, by omega⟩
 replace h28 := dQ h28
 refine Bl (Ad (Ad (Aq (Ac (Am (Am ?_))))))
 have hie : i = l.length := by omega
 rw [hie, List.take_length] at hS
 obtain ⟨T, eT⟩ : ∃ T, T = (Gx (Az all 100000) l).2 := ⟨_, rfl⟩
 rw [← eT, Tp] at hS
 obtain ⟨al2, e2⟩ : ∃ x, x = all ++ l := ⟨_, rfl⟩
 have hal2 : al2.length ≤ 100 := by rw [e2]; exact hl
 rw [← e2] at hS
 refine Aa (Ab rfl (I (HY underlying109 (.t rfl) (hS.get 6 rfl)) (I (.eql (.t rfl) (.const _)) (Ai (CW.b rfl (fun h46 => ?_) (fun h46 => ?_))))))
 ·replace h46 := dQ h46
  have hT0 := vG h46
  refine Af (Ay (Ai (Ak (Ap (KW.q ?_)))))
  have hSz := hS
  (subst e2 eT; exact .inl ⟨hT0, rfl, hSz.take 5⟩)
 replace h46 := dQ h46
 have hT0 : T ≠ [] := fun e => h46 (by rw [e]; rfl)
 refine Aj (Ac (Af (Ab rfl (Ab rfl (I (.nc rfl) (I (.fB 0 rfl) (I (.lb rfl (hS.b0.cell O3)) (A3 (eC (.o rfl) (IW)) rfl (Z4 bf _) ?_))))))))
 rintro _ w10 ⟨⟨BK, rfl, hBK, zK⟩, uw10⟩
 replace hS := hS.up uw10
 have zBK := hBK.lt
 have hMk2 := hS.get 1 rfl
 have zMk := Ms.IMap.lt hMk2
 refine A3 (eC (.o rfl) (IV)) rfl (Xo _ _ _ _ _ _ CF (fun W X Y u hX hY => Xn X Y BK bf (Az al2 100000) W (fun i h => (hY i h).2) (fun h => by have := hX _ h; omega) (fun h => by have := (hY _ h).1; omega) (K1 100000 al2).1 (Hi al2 100000) (hBK.up u) (Ms.IMap.up hMk2 u)) (by have := (K1 100000 al2).2; omega)) ?_
 rintro v53 w11 ⟨ks, hks, hO, hOn, uw11⟩
 replace hS := hS.add uw11 (A' := J 28 19 Fact.cells v53 ks) (hO) (hOn)
 obtain ⟨adk, cpk, rfl, _⟩ := (hS.own 7 rfl).sl (fun _ => rfl)
 have hkl : ks.length ≤ 100000 := by have := (K1 100000 al2).2; have e := hks.length_eq; simp only [Fs, List.length_map] at e; omega
 refine A3 (eC (.ct rfl (.cons (.const _) .nil)) (IP)) rfl (AE adk cpk ks 100000 _ ((hS.own 7 rfl).els (fun _ => rfl)) hkl) ?_
 rintro _ w12 ⟨bc1, rfl, hC1, hb1, uw12⟩
 have zw12 := uw12.size
 replace hS := hS.add uw12 (A' := Gi bc1 (D5 al2 100000)) (by rw [lB hks] at hC1; exact hC1) (lD hb1)
 have hsz1 : bc1.size = 11 := BaseC.size hC1
 have hon1 := BaseC.one hC1
 have hpk : ∀ p ∈ (D5 al2 100000).Processes, (Ig p).ok := vE
 have hsh := K5 (l := al2) (n := 100) hal2 100000
 obtain ⟨kb1, ek1⟩ : ∃ b, b = D5 al2 100000 := ⟨_, rfl⟩
 rw [← ek1] at hS hpk hsh
 have hlP : kb1.Processes.length ≤ 100 := hsh 0
 have hlM : kb1.Measures.length ≤ 100 := hsh 1
 have hlR : kb1.Resets.length ≤ 100 := hsh 8
 have hlT : kb1.Targets.length ≤ 100 := hsh 9
 refine I (.nc rfl) (I (.fB 1 rfl) (Be (.J4 sizeOf50 hsz1 (.t rfl) (.t rfl) hon1 hS.b0 (by rw [gW hbc, hsz1]; decide)) ?_))
 intro w13 Nw13
 rw [AT hbc hsz1] at Nw13
 replace hS := hS.Cp 0 rfl Nw13
 refine Ao (Aa (Ab rfl ?_))
 replace hS := hS.Ec 3 rfl
 have hq_ := (show Wx.Sep _ _ _ ([_, _, _, _, _, _, _, _] ++ [_]) from hS)
 obtain ⟨_, hvp, adp, cpp, rfl, hEp⟩ := BaseC.at_ (hS.get 7 rfl) (j := 0) cQ
 replace hvp : bc1[0]? = some (.slice adp kb1.Processes.length cpp) := hvp
 have hPb : kb1.Processes ≠ [] → ∀ B o, adp = some ⟨B, o, none⟩ → B ≠ bd := fun hne B o ea => qG hS (show 7 < 8 by decide) rfl rfl B ⟨0, _, hvp, by rw [ea]; rfl, hne⟩
 refine A3 (eC (.o rfl) (IX)) rfl (Z5 E bf bd bc1 nw kb1 adp cpp D _ hS.b0 hsz1 hvp hEp hPb hpk oQ (hq_.mA ⟨_, List.mem_cons_self, rfl⟩) hq_.right.self) ?_
 rintro _ w14 ⟨rfl, uw14⟩
 replace hS := hq_.frame uw14
 replace hS := hS.Ez 3 rfl (vP kb1.Processes (hS.get 3 rfl))
 have hD1n := Tq kb1.Processes hDg
 obtain ⟨D1, eD1⟩ : ∃ x, x = O7 D kb1.Processes := ⟨_, rfl⟩
 rw [← eD1] at hS hD1n
 replace hS := hS.sub (.cons_cons _ (.cons_cons _ (.cons _ (.cons_cons _ (.cons_cons _ (.cons_cons _ (.cons _ (.cons_cons _ (.cons_cons _ .slnil)))))))))
 refine Ao (Aa (Ab rfl (Al (Mk.REv.makeMap (Q := Ca)) rfl ?_)))
 rintro _ w15 ⟨M60, rfl, hMM, uw15, eM60, zM60⟩
 replace hS := hS.add uw15 (A' := Mk.A4 Ca M60 (([] : List Grp).map Jf)) hMM (fun i (e : i = M60) => by omega)
 refine I (.build (cs := #[.pointer (some ⟨E, 0, none⟩), .map (some M60)]) underlying119 zeroValue119 Rz (.ct rfl (.cu rfl)) rfl) (Al (.Bm zeroValue119) rfl ?_)
 rintro _ w16 ⟨B9, rfl, MB9⟩
 refine Be (.Bi sizeOf119 rfl (.t rfl) (.t rfl) (by simp [Value.oneCell']) MB9.blk rfl) ?_
 intro w17 LB9
 have NB9 := MB9.set LB9
 replace hS := hS.Bn NB9
 refine LW.nil ?_
 replace hS := hS.Ec 6 rfl
 replace hS := hS.Ec 6 rfl
 refine Ac (Am (Af (Ab rfl (Al (Ms.REv.range underlying109 (.t rfl) (hS.get 4 rfl)) rfl ?_))))
 rintro _ w18 ⟨r63, rfl, hR_, uR, eR, zR⟩
 replace hS := hS.Ez 4 rfl (Ms.Gv hR_ uR eR)
 refine Ai (An (A8 (σ := List (List UInt8) × List Grp) (fun s w => (s.1.Nodup ∧ ∀ k ∈ s.1, k ∈ T) ∧ (∀ g, g ∈ s.2 ↔ g ∈ D1.map (·.g) ∧ ∃ k ∈ s.1, Qz (Az all 100000) (Az al2 100000) kb1 k g = true) ∧ (Wx.Sep (Cu [Cc E (EC bf bc bd (nw)) 107, Ms.A4 bf (Ev (Az all 100000)), Gi bc kb, Mk.A4 Ca bd ((D).map DE.kv), K7 (D)]) w0 w [Cc E (EC bf bc1 bd (nw)) 107, Ms.A4 bf (Ev (Az al2 100000)), K7 (D1), Ms.A4 b5 (Ev (Az all 100000)), Ms.Fv M24 r63 (T.map lE) s.1, Gi bc1 kb1, Cc B9 #[.pointer (some ⟨E, 0, none⟩), .map (some M60)] 119, Mk.A4 Ca bd ((D1).map DE.kv), Mk.A4 Ca M60 ((s.2).map Jf)])) (fun s => []) ([(0, .eq _), (4, .eq _), (5, .eq _), (9, .eq _), (63, .eq _)]) (fun s => T.length - s.1.length) ([], []) ?_ tQ ?_))
 ·exact ⟨⟨List.nodup_nil, fun _ h => (by cases h)⟩, fun g => ⟨fun h => (by cases h), fun ⟨_, _, h, _⟩ => (by cases h)⟩, hS⟩
 rintro ⟨V, St⟩ w19 ⟨hV, hStm, hS⟩
 refine Af (Al (Ms.REv.next (.t rfl) (hS.get 4 rfl)) rfl ?_)
 rintro _ w20 (⟨rfl, rfl, hPm⟩ | ⟨k0, u0, rfl, hNx⟩)
 ·skip
  refine I (.xt rfl rfl) (Ao (CW.f rfl (Bl (Ad (Ad (Aq (Ac (Am (Am ?_)))))))))
  have hStN := Mk.IMap.nodup (hS.get 8 rfl)
  rw [O2] at hStN
  have hVT : ∀ k, k ∈ V ↔ k ∈ T := fun k => by have := hPm.mem_iff (a := k); rwa [Zx] at this
  simp only [hVT] at hStm
  refine Aa (I (.fB 1 rfl) (I (.lb rfl ((hS.blk 6 rfl).Ah rfl)) (Al (Mk.REv.range (Q := Ca) underlying117 (.t rfl) (hS.get 8 rfl)) rfl ?_)))
  rintro _ w21 ⟨r105, rfl, hR_, uR, eR, zR⟩
  replace hS := hS.Ez 8 rfl (Mk.Gv hR_ uR eR)
  refine Ai (An (A8 (σ := List Grp × List DE) (fun s w => (s.1.Nodup ∧ ∀ k ∈ s.1, k ∈ St) ∧ (s.2.map (·.g) = D1.map (·.g)) ∧ (∀ e ∈ s.2, (e.g ∈ s.1 → dk kb1 e) ∧ (e.g ∉ s.1 → e ∈ D1)) ∧ (Wx.Sep (Cu [Cc E (EC bf bc bd (nw)) 107, Ms.A4 bf (Ev (Az all 100000)), Gi bc kb, Mk.A4 Ca bd ((D).map DE.kv), K7 (D)]) w0 w [Cc E (EC bf bc1 bd (nw)) 107, Ms.A4 bf (Ev (Az al2 100000)), K7 (s.2), Ms.A4 b5 (Ev (Az all 100000)), Ms.Fv M24 r63 (T.map lE) V, Gi bc1 kb1, Cc B9 #[.pointer (some ⟨E, 0, none⟩), .map (some M60)] 119, Mk.A4 Ca bd ((s.2).map DE.kv), Mk.Fv Ca M60 r105 (St.map Jf) s.1])) (fun s => []) ([(0, .eq _), (4, .eq _), (9, .eq _), (105, .eq _)]) (fun s => St.length - s.1.length) ([], D1) ?_ tQ ?_))
  ·exact ⟨⟨List.nodup_nil, fun _ h => (by cases h)⟩, rfl, fun e he => ⟨fun h => (by cases h), fun _ => he⟩, hS⟩
  rintro ⟨V2, DV⟩ w22 ⟨hVV, hDk, hDv, hS⟩
  refine Am ?_
  skip
  refine Aa (Al (Mk.REv.next (.t rfl) (hS.get 8 rfl)) rfl ?_)
  rintro _ w23 (⟨rfl, rfl, hPm⟩ | ⟨k1, u1, rfl, hNx⟩)
  ·skip
   refine I (.xt rfl rfl) (Ao (CW.f rfl (Bl (Ad (Ad (Aq (Ac (Am ?_))))))))
   have hVS : ∀ k, k ∈ V2 ↔ k ∈ St := fun k => by have := hPm.mem_iff (a := k); rwa [O2] at this
   simp only [hVS] at hDv
   have hStl : St.length ≤ 100 := Nat.le_trans (AS (D := D) (l := kb1.Processes) hStN (fun g hg => by rw [← eD1]; exact ((hStm g).1 hg).1)) hlP
   refine Ew 10 kQ kQ kQ kQ kQ rfl rfl (U (.mv rfl) (U (.nc rfl) (U (.fB 13 rfl) (U (.lb rfl (hS.b0.cell (uW hsz1))) (U (.fB 1 rfl) (U (.lb rfl ((hS.blk 6 rfl).Ah rfl)) (U (.as (v' := vi ((St.length : Nat) : Int)) (Mk.PEv.HU underlying117 (.t rfl) (Mk.IRng.map (hS.get 8 rfl))) (by rw [List.length_map])) (U (.add (.t rfl) (.t rfl) oQ oQ) (U (.nc rfl) (U (.fB 13 rfl) (HW.nil ?_)))))))))))
   intro w24 uw24
   replace hS := hS.up uw24
   refine Be (.store sizeOf3 (.t rfl) (.t rfl) rfl hS.b0 (by rw [gW hsz1]; decide)) ?_
   intro w25 Nw25
   have zw25 := Nw25.size
   replace hS := hS.Cp 0 rfl (by rw [vD hsz1] at Nw25; exact Nw25)
   refine Ao (Aa (I (.fB 1 rfl) (I (.lb rfl ((hS.blk 6 rfl).Ah rfl)) (I (.as (v' := vi ((St.length : Nat) : Int)) (Mk.PEv.HU underlying117 (.t rfl) (Mk.IRng.map (hS.get 8 rfl))) (by rw [List.length_map])) (LW.A rfl (Ai (Ak (KW.q ?_))))))))
   have hSz := hS
   (subst eD1 ek1 e2 eT; replace hSz := hSz.Ec 5 rfl; replace hSz := hSz.Ec 6 rfl; replace hSz := hSz.Ec 2 rfl; exact .inr ⟨bc1, St, DV, hT0, rfl, hStN, hStm, hDk, hDv, hsz1, hSz.sub (.cons_cons _ (.cons_cons _ (.cons _ (.cons _ (.cons _ (.cons _ (.cons_cons _ (.cons_cons _ (.cons_cons _ .slnil)))))))))⟩)
  skip
  replace hS := hS.Ez 8 rfl (Mk.H0 hNx)
  have hk1S := (uU hNx.mem).1
  have hf1 := hNx.fresh
  have hk1o : k1.ok := JW hNx.rng.map hNx.mem
  have hW2 : (V2 ++ [k1]).Nodup ∧ ∀ k ∈ V2 ++ [k1], k ∈ St := ⟨List.nodup_append.2 ⟨hVV.1, by simp, fun a ha c hc => by simp at hc; subst hc; exact fun e => hf1 (e ▸ ha)⟩, fun k hk => (List.mem_append.1 hk).elim (hVV.2 k) (fun h => by cases List.mem_singleton.1 h; exact hk1S)⟩
  have hWl := hW2.1.length_le_of_subset hW2.2
  rw [List.length_append, List.length_singleton] at hWl
  obtain ⟨j, e1, hj1, hg1⟩ := vI hDk ((hStm k1).1 hk1S).1
  subst hg1
  refine I (.xt rfl rfl) (Ao (CW.v rfl (Aj (Ac (An (Af (Al (.entry (.t rfl) hNx.entry) rfl ?_)))))))
  rintro _ wE ⟨rfl, hwE⟩
  rw [hwE]
  refine I (.xt rfl rfl) (Al (.Bm zeroValue123) rfl ?_)
  rintro _ w26 ⟨B16, rfl, MB16⟩
  refine Be (.Bi sizeOf123 rfl (.t rfl) (.t rfl) (Grp.one _) MB16.blk rfl) ?_
  intro w27 LB16
  have NB16 := MB16.set LB16
  replace hS := hS.Bn NB16
  refine Ai ?_
  obtain ⟨wq, ewq⟩ : ∃ W, W = w27 := ⟨_, rfl⟩
  refine Ew 16 kQ kQ kQ kQ kQ rfl rfl ?_
  have hSq := hS
  refine U (.mv rfl) (U (.nc rfl) (U (.fB 12 rfl) (U (.lb rfl (hS.b0.cell (Nq hsz1))) (U (.lc rfl ((hS.blk 9 rfl).agg)) (U (.mv rfl) (U (.nc rfl) (U (.fB 1 rfl) (U (.Gs isAgg50 sizeOf50 (hsz1) (.t rfl) (O4 hS.b0)) (U (.fB 0 rfl) (U (.lb rfl ((hS.blk 9 rfl).Ah rfl)) (U (.fB 1 rfl) (U (.lb rfl ((hS.blk 9 rfl).Ah rfl)) (U (.fB 2 rfl) (U (.lb rfl ((hS.blk 9 rfl).Ah rfl)) (HF (p := fun v W => ∃ L : List DP, L.map DP.dec = Fj kb1 e1.g.t e1.g.c e1.g.r ∧ (aL ⟨e1.g, v, L⟩).holds W ∧ ∀ i, (aL ⟨e1.g, v, L⟩).foot i → wq.heap.size ≤ i) (fun v W W2 h u => let ⟨L, h1, h2, h3⟩ := h; ⟨L, h1, (aL _).keep _ _ h2 (fun _ _ hl => u.block hl) u.size, h3⟩) (fun a w _ ha => Ci (.ct rfl (.ct rfl (.ct rfl (.cu rfl)))) (BZ) a ha) rfl rfl (fun w hu => (Mx bc1 kb1 e1.g.t e1.g.c e1.g.r w (BaseC.up (hS.get 5 rfl) hu) oQ oQ oQ oQ).mono fun r w2 h => by obtain ⟨v, L, rfl, h1, h2⟩ := h; exact ⟨h2.Cr, L, h1, BA h2, fun i hi => by rw [ewq]; exact Nat.le_trans hu.size (vS h2 i hi)⟩) (HW.nil ?_))))))))))))))))
  intro w28 uw28
  replace hS := hS.up uw28
  refine sC (d := 125) rfl fun v125 hp125 => ?_
  obtain ⟨L125, hL1, hL2, hL3⟩ := hp125
  replace hS := hSq.Ez 2 rfl (vR (hSq.get 2 rfl) hj1 uw28 hL2 (fun i hi => by rw [← ewq]; exact hL3 i hi))
  have hDn : (DV.map (·.g)).Nodup := by rw [hDk]; exact hD1n
  refine Be (Mk.SEv.mapUpdate (Q := Ca) underlying105 Jz hk1o (.t rfl) (.t rfl) (.t rfl) (hS.get 7 rfl)) ?_
  rintro w29 ⟨Mu, Ku, zu⟩
  rw [lG hj1 hDn v125 L125] at Mu
  replace hS := hS.Ez 7 rfl (Mk.Hv Mu Ku)
  refine LW.nil (Ae (Ar ?_))
  exact ⟨(V2 ++ [e1.g], DV.set j ⟨e1.g, v125, L125⟩), ⟨hW2, (vJ hj1).trans hDk, AV hDv hj1 hDn hL1, hS.take 9⟩, tQ, by show St.length - (V2 ++ [e1.g]).length < St.length - V2.length; rw [List.length_append, List.length_singleton]; omega⟩
 skip
 have zw20 := hNx.size
 replace hS := hS.Ez 4 rfl (Ms.H0 hNx)
 have hk0T := vH hNx.mem
 have hf0 := hNx.fresh
 have hV2 : (V ++ [k0]).Nodup ∧ ∀ k ∈ V ++ [k0], k ∈ T := ⟨List.nodup_append.2 ⟨hV.1, by simp, fun a ha c hc => by simp at hc; subst hc; exact fun e => hf0 (e ▸ ha)⟩, fun k hk => (List.mem_append.1 hk).elim (hV.2 k) (fun h => by cases List.mem_singleton.1 h; exact hk0T)⟩
 have hVl := hV2.1.length_le_of_subset hV2.2
 rw [List.length_append, List.length_singleton] at hVl
 refine I (.xt rfl rfl) (Ao (CW.v rfl (Aj (Ac (An (Af (Al (.entry (.t rfl) hNx.entry) rfl ?_)))))))
 rintro _ wE ⟨rfl, hwE⟩
 rw [hwE]
 refine I (.xt rfl rfl) (LW.A rfl (Ao (CW.vars 13 [⟨9, 11, 2, 11, 70⟩, ⟨10, 12, 8, 12, 76⟩] (Fact.cells Ee) [.eq (.map (some b5)), .eq (Ms.vs k0), .eq (.agg (Fact.cells (H5 (Az all 100000) k0))), .eq (.pointer (some ⟨E, 0, none⟩)), .eq (.pointer (some ⟨E, 0, none⟩)), .eq (.pointer (some ⟨E, 0, none⟩)), .eq (.map (some bf)), .eq (Ms.vs k0), .eq (.agg (Fact.cells (H5 (Az al2 100000) k0))), .pred fun v _ => ∃ B, v = .pointer (some ⟨B, 0, none⟩), .pred fun v _ => ∃ B, v = .pointer (some ⟨B, 0, none⟩), .eq undef, .eq undef] [11, 12] zeroValue28 sizeOf28 kQ rfl kQ kQ kQ kQ kQ kQ kQ kQ cQ kQ kQ ?_ ?_ ⟨PhT.eq _ _, PhT.eq _ _, PhT.eq _ _, PhT.eq _ _, PhT.eq _ _, PhT.eq _ _, PhT.eq _ _, PhT.eq _ _, PhT.eq _ _, PhT.pred fun _ _ _ h _ => h, PhT.pred fun _ _ _ h _ => h, PhT.eq _ _, PhT.eq _ _, trivial⟩ ?_ ?_ ?_ ?_ ?_)))
 ·intro v hv; simp only [List.mem_cons, List.mem_nil_iff, or_false] at hv; rcases hv with rfl | rfl <;> exact ⟨_, _, _, rfl⟩
 ·intro v hv; simp only [List.mem_cons, List.mem_nil_iff, or_false] at hv; rcases hv with rfl | rfl <;> exact ⟨_, _, _, rfl⟩
 ·intro v hv; simp only [List.mem_cons, List.mem_nil_iff, or_false] at hv; rcases hv with rfl | rfl <;> (intro o ho; cases ho; rfl)
 ·intro v hv; simp only [List.mem_cons, List.mem_nil_iff, or_false] at hv; rcases hv with rfl | rfl <;> exact fun v W h => ⟨_, h, rfl, Fact.one _⟩
 ·intro v hv; simp only [List.mem_cons, List.mem_nil_iff, or_false] at hv; rcases hv with rfl | rfl <;> exact fun B W => ⟨B, rfl⟩
 ·intro W hK0
  have hK := (Up.drew w20).Df.trans hK0
  have hEW := Blk.Df hS.b0 (T := 28) rfl hK
  have hMW := Zw (hS.get 1 rfl) hK
  have hBW := Zw (hS.get 3 rfl) hK
  refine aC (.inr ⟨rfl, TU.p (.mv rfl) rfl⟩) (aC (.inr ⟨rfl, TU.p (.mv rfl) rfl⟩) (aC (.inr ⟨rfl, TU.p (We (.t rfl) (.t rfl) hBW) rfl⟩) (aC (.inr ⟨rfl, TU.p (.mv rfl) rfl⟩) (aC (.inr ⟨rfl, TU.p (.nc rfl) rfl⟩) (aC (.inr ⟨rfl, TU.p (.fB 0 rfl) rfl⟩) (aC (.inr ⟨rfl, TU.p (.lb rfl (hEW.cell O3)) rfl⟩) (aC (.inr ⟨rfl, TU.p (.mv rfl) rfl⟩) (aC (.inr ⟨rfl, TU.p (We (.t rfl) (.t rfl) hMW) rfl⟩) (aC (.inl (by simp)) (aC (.inl (by simp)) (aC (.inl (by simp)) (aC (.inl (by simp)) ?_))))))))))))
  exact allL.nil
 intro wT g hU0 hbl hpw hg
 have hU := (Up.drew w20).trans hU0
 obtain ⟨B11, e11, z11, hB11⟩ := hbl ⟨9, 11, 2, 11, 70⟩ (by simp)
 obtain ⟨B12, e12, z12, hB12⟩ := hbl ⟨10, 12, 8, 12, 76⟩ (by simp)
 have e70 : g 70 = .agg (Fact.cells (H5 (Az all 100000) k0)) := hg 2 _ 70 cQ rfl rfl
 have e76 : g 76 = .agg (Fact.cells (H5 (Az al2 100000) k0)) := hg 8 _ 76 cQ rfl rfl
 replace e11 : g 11 = .pointer (some ⟨B11, 0, none⟩) := e11
 replace e12 : g 12 = .pointer (some ⟨B12, 0, none⟩) := e12
 have hne12 : B11 ≠ B12 := fun e => (List.pairwise_pair.1 hpw) B11 e11 (by rw [e]; exact e12)
 change LW _ _ _ _ _ _ _ _ ((11, .eq (g 11)) :: (12, .eq (g 12)) :: _) _
 rw [e11, e12]
 rw [e70] at hB11
 rw [e76] at hB12
 replace hB11 : Blk wT B11 (Fact.cells (H5 (Az all 100000) k0)) 28 := hB11
 replace hB12 : Blk wT B12 (Fact.cells (H5 (Az al2 100000) k0)) 28 := hB12
 have zdr : w20.drew.heap.size = w20.heap.size := rfl
 replace hS := hS.join (vF hU hB11 hB12 oQ oQ hne12)
 refine Ao (Af (I (.lc rfl ((hS.blk 9 rfl).agg)) (I (.lc rfl ((hS.blk 10 rfl).agg)) (I (.mF eqGuardType28 (Li _ _) (.t rfl) (.t rfl)) (Ai (CW.b rfl (fun h79 => ?_) (fun h79 => ?_)))))))
 ·replace h79 := dQ h79
  have h79a := h79
  refine Bl (Ad (Aq (Ar ?_)))
  exact ⟨(V ++ [k0], St), ⟨hV2, iA hStm (Ri fun g => by unfold Qz; rw [h79a]; rfl), by exact hS.take 9⟩, tQ, by show T.length - (V ++ [k0]).length < T.length - V.length; rw [List.length_append, List.length_singleton]; omega⟩
 replace h79 := dQ h79
 have h79b : Cz (H5 (Az all 100000) k0) (H5 (Az al2 100000) k0) = false := by simpa using h79
 refine Aj (Ac (Af (I (.lc rfl ((hS.blk 9 rfl).agg)) (I (.lc rfl ((hS.blk 10 rfl).agg)) (Al (.buildSlice (xs := [H5 (Az all 100000) k0, H5 (Az al2 100000) k0]) (enc := Fact.cells) (mk := fun f : Fact => .agg f.cells) underlying25 sizeOf28 zeroValue28 rfl cQ (fun _ => rfl) (fun _ => rfl) (.ct rfl (.cu rfl)) rfl) rfl ?_)))))
 intro v82 w30 hN82
 obtain ⟨u82, B82, rfl, e82, hO82⟩ := NewSl.own hN82 (fun _ => rfl) cQ (by simp [maxLen])
 replace hS := hS.add u82 (A' := J 28 19 Fact.cells (.slice (some ⟨B82, 0, none⟩) 2 2) [H5 (Az all 100000) k0, H5 (Az al2 100000) k0]) hO82 (fun i h => by cases h; exact Nat.le_of_eq e82.symm)
 refine I (.as (v' := vi 2) (PEv.Di underlying25 (.t rfl)) rfl) (I (.move (.const _)) (LW.nil ?_))
 replace hS := hS.Ec 7 rfl
 replace hS := hS.Ec 7 rfl
 replace hS := hS.sub (.cons_cons _ (.cons_cons _ (.cons_cons _ (.cons_cons _ (.cons_cons _ (.cons_cons _ (.cons_cons _ (.cons _ (.cons _ (.cons_cons _ (.cons_cons _ (.cons_cons _ .slnil))))))))))))
 refine Ac (An (A8 (σ := Nat × List Grp) (fun s w => (s.1 ≤ 2) ∧ (∀ g, g ∈ s.2 ↔ g ∈ St ∨ (g ∈ D1.map (·.g) ∧ (([H5 (Az all 100000) k0, H5 (Az al2 100000) k0].take s.1).any fun f => Eg kb1 f g) = true)) ∧ (Wx.Sep (Cu [Cc E (EC bf bc bd (nw)) 107, Ms.A4 bf (Ev (Az all 100000)), Gi bc kb, Mk.A4 Ca bd ((D).map DE.kv), K7 (D)]) w0 w [Cc E (EC bf bc1 bd (nw)) 107, Ms.A4 bf (Ev (Az al2 100000)), K7 (D1), Ms.A4 b5 (Ev (Az all 100000)), Ms.Fv M24 r63 (T.map lE) (V ++ [k0]), Gi bc1 kb1, Cc B9 #[.pointer (some ⟨E, 0, none⟩), .map (some M60)] 119, J 28 19 Fact.cells (.slice (some ⟨B82, 0, none⟩) 2 2) [H5 (Az all 100000) k0, H5 (Az al2 100000) k0], Mk.A4 Ca bd ((D1).map DE.kv), Mk.A4 Ca M60 ((s.2).map Jf)])) (fun s => [(84, .eq (vi (s.1 : Int)))]) ([(0, .eq _), (4, .eq _), (5, .eq _), (9, .eq _), (63, .eq _), (82, .eq _), (83, .eq _)]) (fun s => 2 - s.1) (0, St) ?_ tQ ?_))
 ·exact ⟨Nat.zero_le _, Ri fun _ => rfl, hS⟩
 rintro ⟨j, S1⟩ w31 ⟨hj2, hSi, hS⟩
 change CW _ _ _ _ _ _ _ ([(84, .eq (vi (j : Int)))] ++ _) _
 refine Af (I (.l2 rfl rfl) (Ao (CW.b rfl (fun h85 => ?_) (fun h85 => ?_))))
 ·replace h85 := dQ h85
  refine Aj (Ac (Am (An (Am ?_))))
  obtain ⟨y, hy⟩ : ∃ y, [H5 (Az all 100000) k0, H5 (Az al2 100000) k0][j]? = some y := ⟨_, List.getElem?_eq_getElem (by show j < 2; omega)⟩
  obtain ⟨By, oy, ay, hcy⟩ := (Db (hS.own 7 rfl) (fun _ => rfl)) j y hy
  refine Aa (I (.Av underlying25 sizeOf28 (j := j) (.t rfl) (.t rfl) (by show j < 2; omega) ay) (I (.lc rfl (hcy)) (Al (.Bm zeroValue28) rfl ?_)))
  rintro _ w32 ⟨B14, rfl, MB14⟩
  refine Be (.Bi sizeOf28 rfl (.t rfl) (.t rfl) (Fact.one _) MB14.blk rfl) ?_
  intro w33 LB14
  have NB14 := MB14.set LB14
  replace hS := hS.Bn NB14
  refine Ao (Aa (I (.fB 0 rfl) (I (.lb rfl ((hS.blk 10 rfl).Ah rfl)) (A3 (eC (.o rfl) (IY)) rfl (dJ y.Kind _) ?_))))
  rintro _ w34 ⟨rfl, uw34⟩
  replace hS := hS.up uw34
  refine LW.A rfl (Ao ?_)
  cases lL y.Kind with
  | inl hk0 =>
   obtain ⟨hk1, hkc⟩ := hk0
   refine Aa (Ab rfl (I (.fa (gY underlying120 (.t rfl) (.inl ⟨hk1, rfl⟩)) (rfl)) (Ab rfl (Da (Da (Da (I (.Ei (b := false) (.t rfl) (fun hp => absurd (show false = true from hp) cQ)) (Ai (CW.f rfl (Aj (Ae (Ac (Aa (I (.ic rfl oQ) (Ab rfl (LW.nil (Ar ?_)))))))))))))))))
   exact ⟨(j + 1, S1), ⟨by show j + 1 ≤ 2; omega, dD hy hSi (Ri fun g => by exact hkc kb1 y g rfl), by exact hS.take 10⟩, tQ, by show 2 - (j + 1) < 2 - j; omega⟩
  | inr hk0 =>
   obtain ⟨cf, hk1, hen, hcl⟩ := hk0
   rw [hk1]
   refine Aa (Ab rfl (I (.tr (gY underlying120 (.t rfl) (.inr ⟨_, rfl, rfl⟩)) (rfl)) (Ab rfl (Cb (I (.fB 4 rfl) (Cb (I (.lb rfl ((hS.blk 10 rfl).Ah rfl)) (Cb (I (.n1 rfl) (I (.pa rfl (fun hp => (by exact .tmp rfl))) (Ai (CW.b rfl (fun h97 => ?_) (fun h97 => ?_)))))))))))))
   ·replace h97 := dQ h97
    have hgn : y.Gone = false := by simpa using h97
    refine Aa (Ab rfl (I (.lc rfl ((hS.blk 6 rfl).agg)) (I (.lc rfl ((hS.blk 10 rfl).agg)) ?_)))
    replace hS := hS.Ec 8 rfl
    replace hS := hS.Ec 8 rfl
    have hq_ := (show Wx.Sep _ _ _ ([_, _, _, _, _, _, _, _, _] ++ [_, _]) from hS)
    refine A3 (Cs (.t rfl) (.ct rfl (.cu rfl)) (hen)) rfl (hcl y E bf bd M60 bc1 nw _ S1 _ hS.b0 hsz1 (hq_.mA ⟨_, List.mem_cons_self, rfl⟩) hq_.right.self kb1 (hS.get 5 rfl) oQ rfl hgn) ?_
    rintro _ w35 ⟨S2, rfl, uw35, hS2m⟩
    replace hS := hq_.frame uw35
    simp only [O5] at hS2m
    refine LW.nil (Ae (Ac (Aa (I (.ic rfl oQ) (Ab rfl (LW.nil (Ar ?_)))))))
    exact ⟨(j + 1, S2), ⟨by show j + 1 ≤ 2; omega, dD hy hSi hS2m, by exact hS.sub (.cons_cons _ (.cons_cons _ (.cons_cons _ (.cons_cons _ (.cons_cons _ (.cons_cons _ (.cons_cons _ (.cons_cons _ (.cons _ (.cons_cons _ (.cons_cons _ .slnil)))))))))))⟩, tQ, by show 2 - (j + 1) < 2 - j; omega⟩
   replace h97 := dQ h97
   have hgn : y.Gone = true := by simpa using h97
   refine Aj (Ae (Ac (Aa (I (.ic rfl oQ) (Ab rfl (LW.nil (Ar ?_)))))))
   exact ⟨(j + 1, S1), ⟨by show j + 1 ≤ 2; omega, dD hy hSi (Ri fun g => by exact Wb hgn g), by exact hS.take 10⟩, tQ, by show 2 - (j + 1) < 2 - j; omega⟩
 replace h85 := dQ h85
 have hj2e : j = 2 := by omega
 subst hj2e
 have hSi2 := hSi
 refine Bl (Ad (Ad (Aq (Ae (Ar ?_)))))
 exact ⟨(V ++ [k0], S1), ⟨hV2, iA hStm (AU hSi2 h79b), by exact hS.sub (.cons_cons _ (.cons_cons _ (.cons_cons _ (.cons_cons _ (.cons_cons _ (.cons_cons _ (.cons_cons _ (.cons _ (.cons_cons _ (.cons_cons _ .slnil))))))))))⟩, tQ, by show T.length - (V ++ [k0]).length < T.length - V.length; rw [List.length_append, List.length_singleton]; omega⟩
end Go.Proofs.YtgjogglfnkgapaaGreatDoor
