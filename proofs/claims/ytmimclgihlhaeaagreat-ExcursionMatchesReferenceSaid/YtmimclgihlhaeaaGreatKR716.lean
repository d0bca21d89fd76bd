import Derived.Test.YtmimclgihlhaeaaGreatKR715
import GoSem.Extern.MapsClone
section
namespace Go.Wx.Mk
open Go.RowKit Go.MapKept Go.Wx
variable {κ : Type} {Q : KT κ}
def Cf (Q : KT κ) (b : Nat) (kv : List (κ × Value)) : Asr := ⟨(· = b), fun w => IMap Q w b kv, fun _ _ h k _ => by
 have := h.lt
 obtain ⟨es, clock, h1, h2⟩ := h
 exact ⟨es, clock, (k b rfl this).trans h1, h2⟩, fun _ h _ e => by rw [e]; exact h.lt⟩
def Fq (Q : KT κ) (b r : Nat) (kv : List (κ × Value)) (done : List κ) : Asr := ⟨fun i => i = b ∨ i = r, fun w => IRng Q w b r kv done, fun _ _ h k _ => by
 obtain ⟨es, clock, since, seen, c0, h1, h2, h3, h4, h5⟩ := h
 exact ⟨es, clock, since, seen, c0, (k b (.inl rfl) (lt_of_block h1)).trans h1, h2, h3, (k r (.inr rfl) (lt_of_block h4)).trans h4, h5⟩, fun _ h i e => by
 obtain ⟨es, clock, since, seen, c0, h1, h2, h3, h4, h5⟩ := h
 rcases e with rfl | rfl
 · exact lt_of_block h1
 exact lt_of_block h4⟩
theorem Jy {b : Nat} {kv kv' : List (κ × Value)} {w w' : World} (h : IMap Q w' b kv') (k : Sto b w w') : Stp (Cf Q b kv) (Cf Q b kv') w w' := ⟨k.fr, h, fun _ h => .inl h⟩
theorem Gq {b r : Nat} {kv : List (κ × Value)} {w w' : World} (h : IRng Q w' b r kv []) (u : Up w w') (hr : r = w.heap.size) : Stp (Cf Q b kv) (Fq Q b r kv []) w w' := ⟨u.fr _, h, fun i hi => hi.elim (fun e => .inl e) (fun e => .inr oQ)⟩
theorem H9 {P : Program} {b r : Nat} {kv : List (κ × Value)} {done : List κ} {k : κ} {u : Value} {w w' : World} (h : NextTo Q P w w' b r kv done k u) : Stp (Fq Q b r kv done) (Fq Q b r kv (done ++ [k])) w w' := ⟨h.sto.fr.mono (fun i (e : i = r) => .inr e), h.rng, fun _ h => .inl h⟩
section
variable {P : Program} {n : Nat} {ds : List Deferred} {l : Env} {w : World} {d : Option Tmp} {ty : TypeId} {ps : String} {af : Array Edge} {g : Option (Nat × Bool)}
theorem PEv.Ty {T T' K E : TypeId} {x : Operand} {p : Option Nat} (hT : P.underlying T = some (.map K E)) (hx : Val l x (.map p)) : PEv P n ds l w ⟨d, .binOp .eql T x (.const (.map none)) T', ty, ps, af, g⟩ (.bool p.isNone) := fun a w' ha _ => by
 refine A9 ?_
 have e1 : a.eval (.const (.map none)) = .map none := rfl
 rw [ha.ev hx, e1, Sem.run_bind]
 have : (eqGuard .eql T x (.const (.map none)) (.map p) (.map none)).run P w' = .ok () w' := by unfold eqGuard; rfl
 rw [this]
 show (binOp .eql T (.map p) (.map none)).run P w' = _
 have h0 : ∀ m : Nat, (Op.equalIn (m + 1) T (.map p) (.map none)).run P w' = .ok p.isNone w' := fun m => by cases p <;> simp [Op.equalIn, run_underlying hT]
 have h1 := h0 9999
 simp only [binOp]
 simp [show Op.equal T (.map p) (.map none) = Op.equalIn (9999 + 1) T (.map p) (.map none) from rfl, h1]
end
end Go.Wx.Mk
end
section
namespace Go.Wx
open Go.RowKit
section
variable {P : Program} {n : Nat} {ds : List Deferred} {l : Env} {w : World} {d : Option Tmp} {ty : TypeId} {ps : String} {af : Array Edge} {g : Option (Nat × Bool)}
theorem PEv.max2 {x y : Operand} {ts : Array TypeId} {i j : Int} (hx : Val l x (.int .i64 i)) (hy : Val l y (.int .i64 j)) :
   PEv P n ds l w ⟨d, .call { callee := .builtin .max, args := #[x, y], argTypes := ts }, ty, ps, af, g⟩ (.int .i64 (if i < j then j else i)) := fun a w' ha _ => by
 rw [BigFrame.execOp_builtin, BigFrame.builtin_max]
 refine A9 ?_
 have e : (#[x, y] : Array Operand).map a.eval = #[.int .i64 i, .int .i64 j] := by simp [ha.ev hx, ha.ev hy]
 rw [e]
 exact run_max_int2 w' _ _ _ _ _ _
end
theorem OwnS.Vb {α : Type} {enc : α → Array Value} {b e k : Nat} {w : World} {v : Value} {xs : List α} (h : OwnS w 0 e k enc v xs) (hb : ∀ i, (Al e k enc v xs).foot i → b ≤ i) : OwnS w b e k enc v xs := by
 obtain ⟨h1, h2⟩ := h
 refine ⟨h1, ?_⟩
 rcases h2 with h2 | ⟨g, cap, cur, e, _, rest⟩
 · exact .inl h2
 exact .inr ⟨g, cap, cur, e, hb g (by rw [e]; rfl), rest⟩
end Go.Wx
end
section
namespace Go.Wx
structure MC where
 f : Int
 t : Int
 l : Int
 bl : Nat
 bt : Nat
 bf : Nat
def MC.p (q : MC) : Fact → Bool := jC q.f q.t q.l
def gY (ti : TypeId) (q : MC) : Asr := Db [Ck q.bl #[vi q.l] ti, Ck q.bt #[vi q.t] ti, Ck q.bf #[vi q.f] ti]
theorem Vc {ti : TypeId} {q : MC} {w : World} (h : (gY ti q).holds w) : Blk w q.bl #[vi q.l] ti ∧ Blk w q.bt #[vi q.t] ti ∧ Blk w q.bf #[vi q.f] ti := ⟨h.1 (Ck q.bl #[vi q.l] ti) (by simp), h.1 (Ck q.bt #[vi q.t] ti) (by simp), h.1 (Ck q.bf #[vi q.f] ti) (by simp)⟩
def aQ (ti : TypeId) (Q : List MC) : Asr := Db (Q.map (gY ti))
theorem Rq {ti : TypeId} {Q : List MC} {w : World} (h : (aQ ti Q).holds w) : ∀ q ∈ Q, (gY ti q).holds w := fun q hq => h.1 _ (List.mem_map.2 ⟨q, hq, rfl⟩)
theorem aR {S0 : Nat → Prop} {w0 w : World} {Bs : List Asr} {ti : TypeId} {Q : List MC} {q : MC} (h : Sep S0 w0 w (Bs ++ [aQ ti Q, gY ti q])) : Sep S0 w0 w (Bs ++ [aQ ti (Q ++ [q])]) := by
 have h1 := Sep.unfold (Bs := Bs) (As := Q.map (gY ti)) (rest := [gY ti q]) h
 have h2 := I9 (Bs := Bs) (As := Q.map (gY ti) ++ [gY ti q]) (rest := []) (by simpa using h1)
 have e : Q.map (gY ti) ++ [gY ti q] = (Q ++ [q]).map (gY ti) := by rw [List.map_append]; rfl
 rw [e] at h2
 exact h2
theorem Rr {b : Nat} {kv kv' : List (Int × Value)} {w w' : World} (h : IMap w' b kv') (k : Sto b w w') : Stp (Cf b kv) (Cf b kv') w w' := ⟨k.fr, h, fun _ h => .inl h⟩
structure WE where
 w : Int
 b : Nat
 L : List (Int × Bool)
def WE.kv (e : WE) : Int × Value := (e.w, .map (some e.b))
def WE.pl (e : WE) : Int × List (Int × Bool) := (e.w, e.L)
def gZ (L : List (Int × Bool)) : List (Int × Value) := L.map fun q => (q.1, .bool q.2)
theorem Nt (L : List (Int × Bool)) : (gZ L).map (·.1) = L.map (·.1) := by unfold gZ; rw [List.map_map]; rfl
def Vv (e : WE) : Asr := Cf e.b (gZ e.L)
def dL (D : List WE) : Asr := Db (D.map Vv)
theorem Rs (D : List WE) : (D.map WE.kv).map (·.1) = D.map (·.w) := by rw [List.map_map]; rfl
theorem Nu {D : List WE} {w : World} (h : (dL D).holds w) {j : Nat} {e : WE} (hj : D[j]? = some e) : IMap w e.b (gZ e.L) := h.1 _ (List.mem_map.2 ⟨e, List.mem_of_getElem? hj, rfl⟩)
theorem dM {D : List WE} {w w' : World} {j : Nat} {e : WE} {A : Asr} (h : (dL D).holds w) (hj : D[j]? = some e) (s : Stp (Vv e) A w w') : Stp (dL D) (Db ((D.map Vv).set j A)) w w' := Kq h (by rw [List.getElem?_map, hj]; rfl) s
theorem hG {S0 : Nat → Prop} {w0 w : World} {Bs : List Asr} {D : List WE} {e : WE} (h : Sep S0 w0 w (Bs ++ [dL D, Vv e])) : Sep S0 w0 w (Bs ++ [dL (D ++ [e])]) := by
 have h1 := Sep.unfold (Bs := Bs) (As := D.map Vv) (rest := [Vv e]) h
 have h2 := I9 (Bs := Bs) (As := D.map Vv ++ [Vv e]) (rest := []) (by simpa using h1)
 have e : D.map Vv ++ [Vv e] = (D ++ [e]).map Vv := by rw [List.map_append]; rfl
 rw [e] at h2
 exact h2
theorem uP {D : List WE} {w : Int} {b : Nat} (h : w ∉ D.map (·.w)) : D5 (D.map WE.kv) w (.map (some b)) = (D ++ [(⟨w, b, []⟩ : WE)]).map WE.kv := by
 rw [Qt (by rw [Rs]; exact h), List.map_append]; rfl
def Rt (D : List (Int × List (Int × Bool))) (w id : Int) (s : Bool) : List (Int × List (Int × Bool)) := if w ∈ D.map (·.1) then D.map (fun e => if e.1 = w then (w, Gt e.2 id s) else e) else D ++ [(w, Gt [] id s)]
theorem dN (D : List WE) : (D.map WE.pl).map (·.1) = D.map (·.w) := by rw [List.map_map]; rfl
theorem uQ {D : List WE} {w id : Int} {s : Bool} {b : Nat} (h : w ∉ D.map (·.w)) : ((D ++ [(⟨w, b, []⟩ : WE)]).set D.length ⟨w, b, Gt [] id s⟩).map WE.pl = Rt (D.map WE.pl) w id s := by
 unfold Rt
 rw [if_neg (by rw [dN]; exact h), List.set_append_right _ _ (Nat.le_refl _), Nat.sub_self, List.map_append]
 rfl
theorem uS {D : List WE} {j : Nat} {e : WE} {id : Int} {s : Bool} (hn : (D.map (·.w)).Nodup) (hj : D[j]? = some e) : (D.set j { e with L := Gt e.L id s }).map WE.pl = Rt (D.map WE.pl) e.w id s := by
 have hm : e.w ∈ (D.map WE.pl).map (·.1) := by rw [dN]; exact List.mem_map.2 ⟨e, List.mem_of_getElem? hj, rfl⟩
 unfold Rt
 rw [if_pos hm]
 refine List.ext_getElem? fun i => ?_
 rw [List.getElem?_map, List.getElem?_set, List.getElem?_map, List.getElem?_map]
 by_cases h : j = i
 · subst h
   rw [if_pos rfl, if_pos (List.getElem?_eq_some_iff.1 hj).1, hj]
   show some (e.w, Gt e.L id s) = some (if e.pl.1 = e.w then (e.w, Gt e.pl.2 id s) else e.pl)
   rw [if_pos (show e.pl.1 = e.w from rfl)]
   rfl
 rw [if_neg h]
 cases hi : D[i]? with
 | none => rfl
 | some x =>
   have hne : x.w ≠ e.w := fun ex => h (by
     have h1 : (D.map (·.w))[j]? = some e.w := by rw [List.getElem?_map, hj]; rfl
     have h2 : (D.map (·.w))[i]? = some e.w := by rw [List.getElem?_map, hi, ← ex]; rfl
     exact (List.getElem?_inj (List.getElem?_eq_some_iff.1 h1).1 hn).1 (h1.trans h2.symm))
   show some x.pl = some (if x.pl.1 = e.w then _ else x.pl)
   rw [if_neg (show ¬ x.pl.1 = e.w from hne)]
theorem Ve {L : List (Int × Bool)} (hn : (L.map (·.1)).Nodup) (id : Int) (s : Bool) : D5 (gZ L) id (.bool (K0 L id || s)) = gZ (Gt L id s) := by
 unfold D5 Gt
 by_cases h : id ∈ L.map (·.1)
 · rw [if_pos (by rw [Nt]; exact h), if_pos h]
   unfold gZ
   rw [List.map_map, List.map_map]
   refine List.map_congr_left fun q hq => ?_
   show (if q.1 = id then (id, Value.bool (K0 L id || s)) else (q.1, Value.bool q.2)) = ((if q.1 = id then (id, q.2 || s) else q).1, Value.bool (if q.1 = id then (id, q.2 || s) else q).2)
   by_cases e : q.1 = id
   · rw [if_pos e, if_pos e]
     have : K0 L id = q.2 := by
       rw [Bool.eq_iff_iff]
       unfold K0
       rw [List.any_eq_true]
       constructor
       · rintro ⟨x, hx, hxe⟩
         rw [Bool.and_eq_true, decide_eq_true_eq] at hxe
         have : x = q := by
           obtain ⟨i, hi⟩ := List.getElem?_of_mem hx
           obtain ⟨k, hk⟩ := List.getElem?_of_mem hq
           have h1 : (L.map (·.1))[i]? = some id := by rw [List.getElem?_map, hi]; exact congrArg some hxe.1
           have h2 : (L.map (·.1))[k]? = some id := by rw [List.getElem?_map, hk]; exact congrArg some e
           have : i = k := (List.getElem?_inj (List.getElem?_eq_some_iff.1 h1).1 hn).1 (h1.trans h2.symm)
           subst this
           rw [hi] at hk
           exact Option.some.inj hk
         rw [← this]; exact hxe.2
       intro hs
       exact ⟨q, hq, by rw [Bool.and_eq_true, decide_eq_true_eq]; exact ⟨e, hs⟩⟩
     rw [this]
   rw [if_neg e, if_neg e]
 rw [if_neg (by rw [Nt]; exact h), if_neg h]
 have : K0 L id = false := by
   unfold K0
   rw [List.any_eq_false]
   intro q hq e
   rw [Bool.and_eq_true, decide_eq_true_eq] at e
   exact h (List.mem_map.2 ⟨q, hq, e.1⟩)
 rw [this]
 unfold gZ
 rw [List.map_append]
 rfl
section
variable {P : Program} {n : Nat} {ds : List Deferred} {l : Env} {w : World} {d : Option Tmp} {ty : TypeId} {ps : String} {af : Array Edge} {g : Option (Nat × Bool)}
theorem PEv.sO {T K E : TypeId} {mo x : Operand} {b : Nat} {k : Int} {L : List (Int × Bool)} (hT : P.underlying T = some (.map K E)) (hK : P.underlying K = some (.int .i64)) (hz : ∀ w, (zeroValue E).run P w = .ok (.bool false) w) (hm : Val l mo (.map (some b))) (hx : Val l x (vi k)) (h : IMap w b (gZ L)) (hn : (L.map (·.1)).Nodup) : PEv P n ds l w ⟨d, .lookup T mo x false, ty, ps, af, g⟩ (.bool (K0 L k)) := by
 by_cases hk : k ∈ L.map (·.1)
 · obtain ⟨q, hq, e⟩ := List.mem_map.1 hk
   have hs : K0 L k = q.2 := by
     have h1 := Ve hn k false
     rw [Bool.or_false] at h1
     rw [Bool.eq_iff_iff]
     unfold K0
     rw [List.any_eq_true]
     constructor
     · rintro ⟨x, hx, hxe⟩
       rw [Bool.and_eq_true, decide_eq_true_eq] at hxe
       have : x = q := by
         obtain ⟨i, hi⟩ := List.getElem?_of_mem hx
         obtain ⟨j, hj⟩ := List.getElem?_of_mem hq
         have h1 : (L.map (·.1))[i]? = some k := by rw [List.getElem?_map, hi]; exact congrArg some hxe.1
         have h2 : (L.map (·.1))[j]? = some k := by rw [List.getElem?_map, hj]; exact congrArg some e
         have : i = j := (List.getElem?_inj (List.getElem?_eq_some_iff.1 h1).1 hn).1 (h1.trans h2.symm)
         subst this
         rw [hi] at hj
         exact Option.some.inj hj
       rw [← this]; exact hxe.2
     intro hs
     exact ⟨q, hq, by rw [Bool.and_eq_true, decide_eq_true_eq]; exact ⟨e, hs⟩⟩
   rw [hs]
   exact PEv.C1 (ok := false) hT hK hm hx h (List.mem_map.2 ⟨q, hq, by rw [e]⟩)
 have hs : K0 L k = false := by
   unfold K0
   rw [List.any_eq_false]
   intro q hq e
   rw [Bool.and_eq_true, decide_eq_true_eq] at e
   exact hk (List.mem_map.2 ⟨q, hq, e.1⟩)
 rw [hs]
 exact PEv.G4 (ok := false) hT hK hz hm hx h (by rw [Nt]; exact hk)
def CV (w : World) (r : Nat) : Prop := w.heap[r]? = some (.mapIter none 0 #[] 0)
def zH (r : Nat) : Asr := ⟨(· = r), fun w => CV w r, fun _ _ h k _ => by
 have hlt : r < _ := lt_of_block h
 exact (k r rfl hlt).trans h, fun w h i (e : i = r) => by rw [e]; exact lt_of_block h⟩
theorem REv.mE {T K E : TypeId} {m : Operand} (hT : P.underlying T = some (.map K E)) (hm : Val l m (.map none)) :
   REv P n ds l w ⟨d, .range T m, ty, ps, af, g⟩ (fun v w' => ∃ r, v = .pointer (some ⟨r, 0, none⟩) ∧ CV w' r ∧ Up w w' ∧ r = w.heap.size ∧ w'.heap.size = r + 1) := fun a ha => by
 refine ⟨_, _, A9 (v := .pointer (some ⟨w.heap.size, 0, none⟩)) (w' := w.alloc (.mapIter none 0 #[] 0)) ?_, _, rfl, (Go.MapKept.heap_alloc w _).1, Up.alloc w _, rfl, by simp⟩
 rw [ha.ev hm]
 simp [Instr.range, run_underlying hT]
theorem REv.rA {it : Operand} {r : Nat} (hx : Val l it (.pointer (some ⟨r, 0, none⟩))) (h : CV w r) :
   REv P n ds l w ⟨d, .next it false, ty, ps, af, g⟩ (fun v w' => v = .tuple #[.bool false] ∧ w' = w) := fun a ha => by
 refine ⟨_, _, A9 (v := .tuple #[.bool false]) (w' := w) ?_, rfl, rfl⟩
 rw [ha.ev hx]
 simp only [Instr.next, getObj, Sem.run_bind, Sem.run, show w.heap[r]? = some (.mapIter none 0 #[] 0) from h, Result.andThen]
 rfl
end
structure VP where
 vd : Vd
 ad : Option Addr
 cp : Nat
def VP.uv (p : VP) : Value := .slice p.ad p.vd.why.length p.cp
def VP.cells (p : VP) : Array Value := #[vi p.vd.w, vi p.vd.t, p.uv]
theorem VP.one (p : VP) : p.cells.all (·.oneCell') = true := by simp [VP.cells, VP.uv, Value.oneCell']
def Hv (ti : TypeId) (L : List VP) : List Asr := L.map fun p => Al ti 1 Aq p.uv p.vd.why
theorem Ji (ti : TypeId) (L : List VP) (p : VP) : Hv ti L ++ [Al ti 1 Aq p.uv p.vd.why] = Hv ti (L ++ [p]) := by unfold Hv; rw [List.map_append]; rfl
theorem Nv {ti : TypeId} {L : List VP} {w : World} (h : (Db (Hv ti L)).holds w) : ∀ p ∈ L, Sl w p.uv 1 Aq p.vd.why := fun p hp => OwnS.sl (show OwnS w 0 ti 1 Aq p.uv p.vd.why from h.1 _ (List.mem_map.2 ⟨p, hp, rfl⟩)) (fun _ => rfl)
def Lt (ss gs : List Fact) (x : Exc) (l : List Fact) : List (Int × List (Int × Bool)) := l.foldl (fun D p => if Dj x p && Ov gs x p then Rt D (Iy ss p.Time p.Wafer) p.ID (Dk x p) else D) []
theorem Ow {ss gs : List Fact} {x : Exc} {l : List Fact} {i : Nat} {p : Fact} (h : l[i]? = some p) : Lt ss gs x (l.take (i + 1)) = if Dj x p && Ov gs x p then Rt (Lt ss gs x (l.take i)) (Iy ss p.Time p.Wafer) p.ID (Dk x p) else Lt ss gs x (l.take i) := by
 unfold Lt; rw [Ar h, List.foldl_append]; rfl
def lookW (D : List (Int × List (Int × Bool))) (w : Int) : List (Int × Bool) := ((D.find? fun e => decide (e.1 = w)).map (·.2)).getD []
def Px (w : Int) (L : List (Int × Bool)) : Vd := ⟨w, (Cn L).1, Cc (Cn L).2⟩
def K1 (b : Base) (x : Exc) : List Vd := if Hi x = true then (Bq b.Lots b.Processes b.Swaps).map fun w => Px w (lookW (Lt b.Swaps b.Gaps x b.Processes) w) else []
structure Plc where
 t : Int
 c : Int
def Plc.cells (g : Plc) : Array Value := #[vi g.t, vi g.c]
theorem Plc.one (g : Plc) : g.cells.all (·.oneCell') = true := by simp [Plc.cells, Value.oneCell']
def aS (a b : Plc) : Bool := (a.t == b.t) && ((a.c == b.c) && true)
theorem Lm (x : Exc) (p : Fact) : aS ⟨x.tool, x.chamber⟩ ⟨p.Tool, p.Chamber⟩ = Dj x p := by
 unfold aS Dj
 rw [Bool.eq_iff_iff]
 simp
def MC.key (q : MC) : Int × Int × Int := (q.f, q.t, q.l)
def zI (x : Exc) (g : Fact) : Int × Int × Int := (g.Time, g.Until, x.err)
theorem mF {x : Exc} {l : List Fact} {i : Nat} {y : Fact} (h : l[i]? = some y) (hy : Dj x y = true) : Ir (l.take (i + 1)) x = Ir (l.take i) x ++ [y] := by
 unfold Ir
 rw [Ar h, List.filter_append, List.filter_cons_of_pos hy]; rfl
theorem rB {x : Exc} {l : List Fact} {i : Nat} {y : Fact} (h : l[i]? = some y) (hy : Dj x y = false) : Ir (l.take (i + 1)) x = Ir (l.take i) x := by
 unfold Ir
 rw [Ar h, List.filter_append, List.filter_cons_of_neg (by rw [hy]; exact Bool.false_ne_true)]
 simp
theorem rC {x : Exc} {Q : List MC} {gs : List Fact} {p : Fact} (hQ : Q.map MC.key = (x.frm, x.to, -x.err) :: (x.frm, x.to, x.err) :: (Ir gs x).map (zI x)) (hp : Hf p) (he : 0 ≤ x.err ∧ x.err ≤ 10000) : (Q.any fun q => q.p p) = Ov gs x p := by
 have e : (Q.any fun q => q.p p) = (Q.map MC.key).any fun k => jC k.1 k.2.1 k.2.2 p := by rw [List.any_map]; rfl
 rw [e, hQ, List.any_cons, List.any_cons, List.any_map]
 show (jC x.frm x.to (-x.err) p || (jC x.frm x.to x.err p || (Ir gs x).any fun g => jC g.Time g.Until x.err p)) = _
 unfold Ov Dk
 rw [Xz hp (show -10000 ≤ -x.err ∧ -x.err ≤ 10000 by omega), Xz hp (show -10000 ≤ x.err ∧ x.err ≤ 10000 by omega), show (fun g : Fact => jC g.Time g.Until x.err p) = fun g => Vu g.Time g.Until x.err p from funext fun g => Xz hp (show -10000 ≤ x.err ∧ x.err ≤ 10000 by omega)]
theorem dO {D : List WE} {j : Nat} {e : WE} (hj : D[j]? = some e) (L : List (Int × Bool)) : (D.set j { e with L := L }).map WE.kv = D.map WE.kv := by
 rw [List.map_set]
 exact Nl (show (D.map WE.kv)[j]? = some (WE.kv { e with L := L }) by rw [List.getElem?_map, hj]; rfl)
theorem dP {D : List WE} {j : Nat} {e : WE} (hj : D[j]? = some e) (L : List (Int × Bool)) : (D.set j { e with L := L }).map (·.w) = D.map (·.w) := by
 rw [List.map_set]
 exact Nl (show (D.map (·.w))[j]? = some e.w by rw [List.getElem?_map, hj]; rfl)
theorem dR {D : List WE} {w w' : World} {j : Nat} {e : WE} {L : List (Int × Bool)} (h : (dL D).holds w) (hj : D[j]? = some e) (M : IMap w' e.b (gZ L)) (K : Sto e.b w w') : Stp (dL D) (dL (D.set j { e with L := L })) w w' := by
 have h2 := dM (A := Vv { e with L := L }) h hj (Rr M K)
 unfold dL at h2 ⊢
 rw [List.map_set]
 exact h2
theorem Pk {D : List WE} {w : Int} (h : D.find? (fun e => decide (e.w = w)) = none) : w ∉ D.map (·.w) := fun hm => by
 obtain ⟨e, he, ew⟩ := List.mem_map.1 hm
 exact absurd (List.find?_eq_none.1 h e he) (by simp [ew])
theorem Pm {D : List WE} {w : Int} {e : WE} (h : D.find? (fun e => decide (e.w = w)) = some e) : ∃ j : Nat, D[j]? = some e ∧ e.w = w := by
 obtain ⟨j, hj⟩ := List.getElem?_of_mem (List.mem_of_find?_eq_some h)
 exact ⟨j, hj, of_decide_eq_true (List.find?_some (p := fun e : WE => decide (e.w = w)) h)⟩
theorem aT {D : List WE} {w : Int} (h : D.find? (fun e => decide (e.w = w)) = none) : lookW (D.map WE.pl) w = [] := by
 unfold lookW
 rw [List.find?_map]
 show ((Option.map WE.pl (D.find? fun e => decide (e.w = w))).map (·.2)).getD [] = []
 rw [h]; rfl
theorem aU {D : List WE} {w : Int} {e : WE} (h : D.find? (fun e => decide (e.w = w)) = some e) : lookW (D.map WE.pl) w = e.L := by
 unfold lookW
 rw [List.find?_map]
 show ((Option.map WE.pl (D.find? fun e => decide (e.w = w))).map (·.2)).getD [] = e.L
 rw [h]; rfl
theorem perm_keys {V L : List (Int × Bool)} (hV : (V.map (·.1)).Nodup) (hL : (L.map (·.1)).Nodup) (hs : ∀ q ∈ V, q ∈ L) (hp : (V.map (·.1)).Perm (L.map (·.1))) : V.Perm L := by
 have nd : ∀ {l : List (Int × Bool)}, (l.map (·.1)).Nodup → l.Nodup := fun {l} h => (List.pairwise_map.1 h).imp fun h e => h (congrArg _ e)
 refine (List.perm_ext_iff_of_nodup (nd hV) (nd hL)).2 fun q => ⟨hs q, fun hq => ?_⟩
 have h1 : q.1 ∈ V.map (·.1) := hp.symm.subset (List.mem_map.2 ⟨q, hq, rfl⟩)
 obtain ⟨x, hx, e⟩ := List.mem_map.1 h1
 have hxL := hs x hx
 have : x = q := by
   obtain ⟨i, hi⟩ := List.getElem?_of_mem hxL
   obtain ⟨k, hk⟩ := List.getElem?_of_mem hq
   have h1 : (L.map (·.1))[i]? = some q.1 := by rw [List.getElem?_map, hi]; exact congrArg some e
   have h2 : (L.map (·.1))[k]? = some q.1 := by rw [List.getElem?_map, hk]; rfl
   have : i = k := (List.getElem?_inj (List.getElem?_eq_some_iff.1 h1).1 hL).1 (h1.trans h2.symm)
   subst this
   rw [hi] at hk
   exact Option.some.inj hk
 exact this ▸ hx
theorem Qa {V L : List (Int × Bool)} (h : V.Perm L) : (Cn V).1 = (Cn L).1 ∧ Cc (Cn V).2 = Cc (Cn L).2 := ⟨(Tw h).1, by
 unfold Cc
 exact Gr (Tw h).2⟩
end Go.Wx
namespace Go.Proofs.YtmimclgihlhaeaaGreat
open Go.Proofs.Tryz
open Go.Wx Go.RowKit
end Go.Proofs.YtmimclgihlhaeaaGreat
end
section
namespace Go.Wx
open Go.RowKit
def Fs (As : List Asr) : Nat → Prop := fun i => ∃ A ∈ As, A.foot i
section
variable {S0 : Nat → Prop} {w0 w w' : World} {As Bs Zs As' : List Asr} {A : Asr}
theorem Ox {i : Nat} : Fs (As ++ Bs) i ↔ Fs As i ∨ Fs Bs i := by
 constructor
 · rintro ⟨A, hA, hi⟩
   exact (List.mem_append.1 hA).imp (fun h => ⟨A, h, hi⟩) (fun h => ⟨A, h, hi⟩)
 rintro (⟨A, hA, hi⟩ | ⟨A, hA, hi⟩)
 · exact ⟨A, List.mem_append_left _ hA, hi⟩
 exact ⟨A, List.mem_append_right _ hA, hi⟩
theorem Sep.self (h : Sep S0 w0 w As) : Sep (Fs As) w w As := ⟨Fr.refl _ _, fun A hA => ⟨(h.each A hA).1, fun _ hi => .inl ⟨A, hA, hi⟩⟩, h.apart⟩
theorem Sep.right (h : Sep S0 w0 w (Zs ++ As)) : Sep S0 w0 w As := h.sub (List.sublist_append_right _ _)
theorem Sep.left (h : Sep S0 w0 w (Zs ++ As)) : Sep S0 w0 w Zs := h.sub (List.sublist_append_left _ _)
theorem Sep.AL (h : Sep S0 w0 w (Zs ++ As)) {i : Nat} (hz : Fs Zs i) : ¬ Fs As i := by
 obtain ⟨Z, hZ, h1⟩ := hz
 rintro ⟨A, hA, h2⟩
 exact (List.pairwise_append.1 h.apart).2.2 Z hZ A hA i h1 h2
theorem Sep.DJ (h : Sep S0 w0 w As) {i : Nat} (hi : Fs As i) : i < w.heap.size := by
 obtain ⟨A, hA, h1⟩ := hi
 exact Asr.lt _ w (h.each A hA).1 i h1
theorem Sep.frame (h : Sep S0 w0 w (Zs ++ As)) (k : Sep (Fs As) w w' As') : Sep S0 w0 w' (Zs ++ As') := by
 have hsz := h.size
 have hF : ∀ i, Fs As i → S0 i ∨ w0.heap.size ≤ i := fun i ⟨A, hA, hi⟩ => (h.each A (List.mem_append_right _ hA)).2 i hi
 refine ⟨h.fr.next k.fr hF, fun B hB => ?_, ?_⟩
 · rcases List.mem_append.1 hB with hB | hB
   · have h1 := h.each B (List.mem_append_left _ hB)
     exact ⟨B.keep w w' h1.1 (fun i hi hlt => k.fr.block i hlt (h.AL ⟨B, hB, hi⟩)) k.size, h1.2⟩
   have h1 := k.each B hB
   exact ⟨h1.1, fun i hi => (h1.2 i hi).elim (hF i) (fun h2 => .inr oQ)⟩
 refine List.pairwise_append.2 ⟨h.left.apart, k.apart, fun Z hZ B hB i h1 h2 => ?_⟩
 rcases (k.each B hB).2 i h2 with h3 | h3
 · exact h.AL ⟨Z, hZ, h1⟩ h3
 have := Asr.lt _ w (h.each Z (List.mem_append_left _ hZ)).1 i h1
 omega
theorem Sep.join (h : Sep S0 w0 w As) (k : Sep no w w' Bs) : Sep S0 w0 w' (As ++ Bs) := by
 have hsz := h.size
 have h1 := h.up k.Ce
 refine ⟨h1.fr, fun B hB => ?_, List.pairwise_append.2 ⟨h.apart, k.apart, fun A hA B hB i h2 h3 => ?_⟩⟩
 · rcases List.mem_append.1 hB with hB | hB
   · exact h1.each B hB
   have h2 := k.each B hB
   exact ⟨h2.1, fun i hi => (h2.2 i hi).elim (fun e => e.elim) (fun e => .inr oQ)⟩
 have := Asr.lt _ w (h.each A hA).1 i h2
 exact ((k.each B hB).2 i h3).elim (fun e => e) (fun e => by omega)
theorem Tz {α : Type _} : ∀ (l : List α) (k : Nat) (a : α), l[k]? = some a → l.Perm ([a] ++ l.eraseIdx k)
 | [], _, _, h => by simp at h
 | x :: l, 0, a, h => by
   have : x = a := by simpa using h
   rw [this]; exact List.Perm.refl _
 | x :: l, k + 1, a, h => ((Tz l k a (by simpa using h)).cons x).trans (List.Perm.swap a x _)
theorem Sep.Py (h : Sep S0 w0 w As) (k : Nat) (hk : As[k]? = some A) : Sep S0 w0 w (As.eraseIdx k ++ [A]) := by
 exact h.perm ((Tz As k A hk).trans List.perm_append_comm)
def KoOk (bq : Nat) (w : World) (As : List Asr) : Prop := ∀ i, Fs As i → i < bq ∨ ∃ o : Obj, w.heap[i]? = some o ∧ o.isCells = true
theorem KoOk.fW {bq : Nat} : KoOk bq w (As ++ Bs) ↔ KoOk bq w As ∧ KoOk bq w Bs :=
 ⟨fun h => ⟨fun i hi => h i (Ox.2 (.inl hi)), fun i hi => h i (Ox.2 (.inr hi))⟩, fun ⟨h, k⟩ i hi => (Ox.1 hi).elim (h i) (k i)⟩
theorem X1 {bq : Nat} (h : ∀ i, Fs As i → i < bq) : KoOk bq w As := fun i hi => .inl (h i hi)
theorem KoOk.nil (bq : Nat) (w : World) : KoOk bq w [] := fun _ ⟨_, h, _⟩ => by cases h
theorem KoOk.cons {bq : Nat} (h : ∀ i, A.foot i → i < bq ∨ ∃ o : Obj, w.heap[i]? = some o ∧ o.isCells = true) (k : KoOk bq w As) : KoOk bq w (A :: As) := fun i ⟨B, hB, hi⟩ => by
 rcases List.mem_cons.1 hB with rfl | hB
 · exact h i hi
 exact k i ⟨B, hB, hi⟩
theorem zL {bq B : Nat} {cs : Array Value} {T : TypeId} (h : Blk w B cs T) : ∀ i, (Ck B cs T).foot i → i < bq ∨ ∃ o : Obj, w.heap[i]? = some o ∧ o.isCells = true := fun i (e : i = B) => by subst e; exact .inr ⟨_, h, rfl⟩
theorem CX {α : Type} {bq : Nat} {e : TypeId} {k : Nat} {enc : α → Array Value} {v : Value} {xs : List α} (h : OwnS w 0 e k enc v xs) : ∀ i, (Al e k enc v xs).foot i → i < bq ∨ ∃ o : Obj, w.heap[i]? = some o ∧ o.isCells = true := fun i hi => by
 obtain ⟨_, ⟨rfl, _⟩ | ⟨g, cap, cur, rfl, _, hg, _⟩⟩ := h
 · cases hi
 cases hi
 exact .inr ⟨_, hg, rfl⟩
theorem KoOk.ko {bq : Nat} (h : KoOk bq w As) (k : Ko bq w w') : KoOk bq w' As := fun i hi => by
 rcases h i hi with h1 | ⟨o, h1, h2⟩
 · exact .inl h1
 exact .inr ⟨o, k.same i o h1 (.inr h2), h2⟩
theorem Sep.ko {bq : Nat} (h : Sep S0 w0 w As) (hc : KoOk bq w As) (k : Ko bq w w') (hb : w0.heap.size ≤ bq) : Sep S0 w0 w' As :=
 ⟨h.fr.ko k hb, fun A hA => ⟨A.keep w w' (h.each A hA).1 (fun i hi hlt => by
   obtain ⟨o, ho⟩ : ∃ o, w.heap[i]? = some o := ⟨_, Array.getElem?_eq_getElem hlt⟩
   rw [ho]
   refine k.same i o ho ?_
   rcases hc i ⟨A, hA, hi⟩ with h1 | ⟨o', h1, h2⟩
   · exact .inl h1
   rw [ho] at h1; cases h1; exact .inr h2) k.size, (h.each A hA).2⟩, h.apart⟩
end
theorem Ed {α : Type} {enc : α → Array Value} {b k : Nat} {e : TypeId} {w : World} {ad : Option Addr} {m cp : Nat} {xs : List α} (h : OwnS w b e k enc (.slice ad m cp) xs) (hk : ∀ x, (enc x).size = k) : Els w ad k enc xs := by
 obtain ⟨ad', cp', e', hE⟩ := h.sl hk
 cases e'
 exact hE
theorem OwnS.cap {α : Type} {enc : α → Array Value} {b k : Nat} {e : TypeId} {w : World} {ad : Option Addr} {m cp : Nat} {xs : List α} (h : OwnS w b e k enc (.slice ad m cp) xs) : m ≤ cp ∧ m = xs.length := by
 obtain ⟨_, ⟨e1, hn⟩ | ⟨g, cap, cur, e1, hb, hg, hcap, hcm, hcs, htk⟩⟩ := h
 · cases e1; exact ⟨Nat.le_refl _, hn.symm⟩
 cases e1; exact ⟨hcap, rfl⟩
theorem NewSl.own {α : Type} {enc : α → Array Value} {k : Nat} {e : TypeId} {w w' : World} {v : Value} {xs : List α} (h : NewSl w e k enc xs v w') (hk : ∀ x, (enc x).size = k) (hk0 : 0 < k) (hm : xs.length ≤ maxLen) : Up w w' ∧ ∃ B, v = .slice (some ⟨B, 0, none⟩) xs.length xs.length ∧ B = w.heap.size ∧ OwnS w' 0 e k enc (.slice (some ⟨B, 0, none⟩) xs.length xs.length) xs := by
 obtain ⟨B, cs, rfl, N, hc, hE⟩ := h
 have hfl : ∀ x, (enc x).toList.length = k := fun x => by simp [hk]
 have hl := Du (fun x => (enc x).toList) k hfl xs
 refine ⟨N.up, B, rfl, N.at_, hl, .inr ⟨B, xs.length, cs, rfl, Nat.zero_le _, N.blk, Nat.le_refl _, hm, hc, ?_⟩⟩
 rw [List.take_of_length_le (by rw [Array.length_toList, hc]; exact Nat.le_refl _)]
 refine List.ext_getElem (by rw [Array.length_toList, hc, hl]) fun j h1 h2 => ?_
 obtain ⟨x, hx1, hx2⟩ := M6 (fun x => (enc x).toList) k hk0 hfl xs j _ (List.getElem?_eq_getElem h2)
 obtain ⟨B', o, e', hcell⟩ := hE _ x hx1
 cases e'
 have h3 := hcell (j % k) _ (by simpa using hx2)
 rw [show 0 + j / k * k + j % k = j by rw [Nat.zero_add, Nat.mul_comm]; exact Nat.div_add_mod j k] at h3
 have hb := N.blk
 unfold Blk at hb
 have h1' : j < cs.size := by simpa using h1
 simp [World.cell?, hb, h1'] at h3
 simpa using h3
def mG (T : World → Prop) (Tx : Code → World → Prop) : Exit → Go.Act → World → Prop
 | .normal, _, w => T w
 | .ret, _, w => Tx .ret w
 | .exit id, _, w => Tx (.exit id) w
 | .goto t, _, w => Tx (.goto t) w
 | _, _, _ => False
def Nw (D : Nat) : Asr := ⟨(· = D), fun w => Ob w D (.deferred (some [])), fun _ _ h k _ => (k D rfl (lt_of_block h)).trans h, fun _ h _ e => by subst e; exact lt_of_block h⟩
def Ru (Ds : List Nat) : Asr := ⟨(· ∈ Ds), fun w => Ds.Nodup ∧ ∀ D ∈ Ds, Ob w D (.deferred (some [])), fun _ _ h k _ => ⟨h.1, fun D hD => (k D hD (lt_of_block (h.2 D hD))).trans (h.2 D hD)⟩, fun _ h _ e => lt_of_block (h.2 _ e)⟩
theorem Sep.uT {S0 : Nat → Prop} {w0 w : World} {As : List Asr} (h : Sep S0 w0 w As) : Sep S0 w0 w (As ++ [Ru []]) := h.add (Up.refl _) ⟨List.nodup_nil, fun _ h => by cases h⟩ (fun _ h => by cases h)
theorem rD {S0 : Nat → Prop} {w0 w : World} {As Bs : List Asr} {Ds : List Nat} {D : Nat} (h : Sep S0 w0 w ((Ru Ds :: As) ++ (Bs ++ [Nw D]))) : Sep S0 w0 w (Ru (D :: Ds) :: (As ++ Bs)) := by
 have h1 := h.get 0 rfl
 have hD : Ob w D (.deferred (some [])) := (h.each (Nw D) (by simp)).1
 have hn : D ∉ Ds := fun hm => by
   have h2 := (List.pairwise_cons.1 h.apart).1 (Nw D) (by simp) D hm
   exact h2 rfl
 have hs : Sep S0 w0 w ((Ru Ds :: As) ++ Bs) := h.sub (List.Sublist.append_left (List.sublist_append_left _ _) _)
 refine ⟨h.fr, fun A hA => ?_, ?_⟩
 · rcases List.mem_cons.1 hA with rfl | hA
   · refine ⟨⟨List.nodup_cons.2 ⟨hn, h1.1⟩, fun E hE => ?_⟩, fun i hi => ?_⟩
     · rcases List.mem_cons.1 hE with rfl | hE
       · exact hD
       exact h1.2 E hE
     rcases List.mem_cons.1 hi with rfl | hi
     · exact (h.each (Nw i) (by simp)).2 i rfl
     exact (h.each (Ru Ds) (by simp)).2 i hi
   exact hs.each A (List.mem_cons_of_mem _ hA)
 have h2 := hs.apart
 rw [List.cons_append, List.pairwise_cons] at h2
 refine List.pairwise_cons.2 ⟨fun A hA i hi hi2 => ?_, h2.2⟩
 rcases List.mem_cons.1 hi with rfl | hi
 · have h3 := (List.pairwise_append.1 h.apart)
   rcases List.mem_append.1 hA with hA | hA
   · exact h3.2.2 A (List.mem_cons_of_mem _ hA) (Nw i) (by simp) i hi2 rfl
   exact (List.pairwise_append.1 h3.2.1).2.2 A hA (Nw i) (by simp) i hi2 rfl
 exact h2.1 A hA i hi hi2
def CY : Asr := ⟨fun _ => False, fun _ => True, fun _ _ h _ _ => h, fun _ _ _ h => h.elim⟩
def mH (Ds : List Nat) : List Deferred := Ds.map fun D => { target := .collected D, args := #[] }
section
variable {R : Option Nat} {m : Nat} {P : Program} {n : Nat} {ds : List Deferred} {Q : Exit → Go.Act → World → Prop} {l : Env} {w : World}
theorem aV {fn : Func} {RR : Ending → World → Prop} (hl : Cd l = true) : ∀ (Ds : List Nat) (w : World), Ds.Nodup → (∀ D ∈ Ds, Ob w D (.deferred (some []))) → (∀ w', Fr (· ∈ Ds) w w' → KW n [] (bodyPost P fn RR .ret) l w') → KW n (mH Ds) (bodyPostM (FR none) m P fn RR .ret) l w := by
 intro Ds w hn hk h a ha
 show LeavesInM (FR none) m P fn a.tmps RR a.defers .returning w
 rw [ha.defers]
 have key : ∀ (Ds : List Nat) (w : World), Ds.Nodup → (∀ D ∈ Ds, Ob w D (.deferred (some []))) → (∀ w', Fr (· ∈ Ds) w w' → KW n [] (bodyPost P fn RR .ret) l w') → LeavesInM (FR none) m P fn a.tmps RR (mH Ds) .returning w := by
   intro Ds
   induction Ds with
   | nil =>
     intro w _ _ h
     obtain ⟨_, v, h2, h3⟩ := h w (Fr.refl _ _) { tmps := a.tmps, defers := [] } ⟨rfl, ha.size, (ha.world hl _).val⟩
     exact Kg h2 h3
   | cons D Ds ih =>
     intro w hn hk h
     have hD := hk D List.mem_cons_self
     obtain ⟨hn1, hn2⟩ := List.nodup_cons.1 hn
     refine M4 hD (ih _ hn2 (fun E hE => ?_) (fun w' hf => h w' ?_))
     · exact (World.putObj_heap_other (fun e : E = D => hn1 (e ▸ hE))).trans (hk E (List.mem_cons_of_mem _ hE))
     refine ⟨hf.os, hf.tape, hf.output, Nat.le_trans (by simp) hf.size, fun i hi hs => ?_⟩
     have h1 : i ≠ D := fun e => hs (by rw [e]; exact List.mem_cons_self)
     exact (hf.block i (by simpa using hi) (fun e => hs (List.mem_cons_of_mem _ e))).trans (World.putObj_heap_other h1)
 exact key Ds w hn hk h
theorem X2 {α σ : Type} {g : Operand} {ps : Array Tmp} {assign body : Code} {gf : Nat} {lb : Array Value} {encs : α → Array Value} {Zs : List Asr} {S0 : Nat → Prop} {w0 : World} (As : σ → List Asr) (J : List α → σ → Prop) (Jx : Code → List α → σ → Prop) (Bx : α → Nat → List Asr) (env : α → Nat → Env) (s0 : σ) {S Sp : List α → Prop} {N : Nat}
   (hx : Val l g (.func (.func gf) #[] lb)) (en : ∀ args w, (callFunc gf args).run P w = .ok (.enter gf args) w) (hit : IterS P gf lb encs (fun i => (S0 i ∨ w0.heap.size ≤ i) ∧ ¬ Fs Zs i) (fun i => (S0 i ∨ w0.heap.size ≤ i) ∧ i < w.heap.size ∧ ¬ Fs Zs i) S Sp N w) (hps : ∀ x, (encs x).size = ps.size) (hl : Cd l = true) (henv : ∀ x b, Cd (env x b) = true)
   (hS : Sep S0 w0 w (Zs ++ As s0)) (hJ : J [] s0)
   (hassign : ∀ (lp : Nat) (x : α) (W : World) (a : Go.Act), Ag n ds l a W → assign.wpIn (FR (some lp)) 8 P (Exit.then (fun a' W' => ∃ b, Sep no W W' (Bx x b) ∧ KoOk 0 W' (Bx x b) ∧ Ag n [] (env x b) a' W') (fun _ _ _ => False)) { tmps := (ps.zip (encs x)).foldl (fun t (p, v) => t.setIfInBounds p v) a.tmps, defers := [] } W)
   (hbody : ∀ (lp : Nat) (pre : List α) (x : α) (s : σ) (b : Nat) (W : World), J pre s → pre.length < N → w.heap.size ≤ W.heap.size → Sep S0 w0 W (Zs ++ (As s ++ Bx x b)) → Sep (Fs (As s ++ Bx x b)) W W (As s ++ Bx x b) →
     CW (some lp) 8 P n [] body (mG (fun W' => ∃ s' Rest, J (pre ++ [x]) s' ∧ Sep (Fs (As s ++ Bx x b)) W W' (As s' ++ Rest) ∧ KoOk w.heap.size W' (As s')) (fun c W' => ∃ s' Rest, Jx c (pre ++ [x]) s' ∧ Sep (Fs (As s ++ Bx x b)) W W' (As s' ++ Rest) ∧ KoOk w.heap.size W' (As s'))) (env x b) W)
   (hdone : ∀ (D : Nat) (ys : List α) (s : σ) (W : World), w.heap.size ≤ D → S ys → J ys s → w.heap.size ≤ W.heap.size → Sep S0 w0 W (Zs ++ (As s ++ [Nw D])) → KW n ({ target := .collected D, args := #[] } :: ds) (Q .normal) l W)
   (hstop : ∀ (D : Nat) (c : Code) (pre : List α) (s : σ) (W : World), w.heap.size ≤ D → Sp pre → Jx c pre s → w.heap.size ≤ W.heap.size → Sep S0 w0 W (Zs ++ (As s ++ [Nw D])) → CW none 10 P n ({ target := .collected D, args := #[] } :: ds) c Q l W) :
   CW none 10 P n ds (.rangeFunc g ps assign body) Q l w := fun a ha => by
 have hg := ha.ev hx
 have hw0 := hS.size
 refine wpIn_rangeFunc ?_
 intro fn hfn
 let rec_ : LoopState → Option Code → Loop := fun st pe => { state := st, pending := pe, fn, tmps := a.tmps, params := ps, assign, body, defers := w.heap.size }
 let kd : Nat := w.heap.size
 let lp : Nat := w.heap.size + 1
 let W1 : World := (w.alloc (.deferred (some []))).alloc (.loop (rec_ .ready none))
 have hU : Up w W1 := (Up.alloc _ _).trans (Up.alloc _ _)
 have rec1 : W1.heap[lp]? = some (.loop (rec_ .ready none)) := by
   have := World.alloc_heap_new (w.alloc (.deferred (some []))) (.loop (rec_ .ready none))
   rw [World.size_alloc] at this
   exact this
 have dfr1 : W1.heap[kd]? = some (.deferred (some [])) := (Below.heap_alloc _ _ _ (by simp [kd])).trans (World.alloc_heap_new w _)
 have hne : kd ≠ lp := by show w.heap.size ≠ w.heap.size + 1; omega
 have hlpq : w.heap.size ≤ lp := by show w.heap.size ≤ w.heap.size + 1; omega
 have hZlow : ∀ i, Fs Zs i → i < w.heap.size := fun i hi => hS.left.DJ hi
 -- what stands while the loop goes on
 let I : List α → World → Prop := fun pre W => ∃ s, J pre s ∧ w.heap.size ≤ W.heap.size ∧ Sep S0 w0 W (Zs ++ As s) ∧ KoOk w.heap.size W (Zs ++ As s)
 let Ix : Code → List α → World → Prop := fun c pre W => ∃ s, Jx c pre s ∧ w.heap.size ≤ W.heap.size ∧ Sep S0 w0 W (Zs ++ As s) ∧ KoOk w.heap.size W (Zs ++ As s)
 have kI : ∀ pre A B, I pre A → Ko w.heap.size A B → I pre B := fun pre A B ⟨s, h1, h2, h3, h4⟩ k => ⟨s, h1, Nat.le_trans h2 k.size, h3.ko h4 k hw0, h4.ko k⟩
 have kIx : ∀ c pre A B, Ix c pre A → Ko w.heap.size A B → Ix c pre B := fun c pre A B ⟨s, h1, h2, h3, h4⟩ k => ⟨s, h1, Nat.le_trans h2 k.size, h3.ko h4 k hw0, h4.ko k⟩
 have koW : ∀ {A B : World} {row : Option Nat}, A.grownBy B row → (∀ r, row = some r → W1.heap.size ≤ r ∧ ∃ o : Obj, A.heap[r]? = some o ∧ o.isWalk = true) → Ko w.heap.size A B := fun hg' hr => Ko.grown hg' fun r e => by
   obtain ⟨h1, o, h2, h3⟩ := hr r e
   exact ⟨Nat.le_trans (Up.size hU) h1, o, h2, Obj.not_cells_of_walk h3⟩
 have hk1 : ∀ {A B : World} {row : Option Nat} {k : Nat} {o : Obj}, A.grownBy B row → (∀ r, row = some r → W1.heap.size ≤ r ∧ ∃ o : Obj, A.heap[r]? = some o ∧ o.isWalk = true) → A.heap[k]? = some o → o.isWalk = false → B.heap[k]? = some o := fun hg' hr hk ho => (grownBy_keeps hg' (fun r e => (hr r e).2) hk ho).trans hk
 have hI1 : I [] W1 := ⟨s0, hJ, Up.size hU, hS.up hU, X1 fun i hi => hS.DJ hi⟩
 have all := hit lp (fun pre W => I pre W ∧ W.heap[lp]? = some (.loop (rec_ .ready none)) ∧ W.heap[kd]? = some (.deferred (some [])))
   (fun pre W => ∃ c, Ix c pre W ∧ W.heap[lp]? = some (.loop (rec_ .done (some c))) ∧ W.heap[kd]? = some (.deferred (some []))) W1 hU
   (fun s A B row hs hg' hr => ⟨kI _ _ _ hs.1 (koW hg' hr), hk1 hg' hr hs.2.1 rfl, hk1 hg' hr hs.2.2 rfl⟩)
   (fun s A B row hs hg' hr => by
     obtain ⟨c, hc, h1, h2⟩ := hs
     exact ⟨c, kIx _ _ _ _ hc (koW hg' hr), hk1 hg' hr h1 rfl, hk1 hg' hr h2 rfl⟩) ?_ ⟨hI1, rec1, dfr1⟩
 · refine ⟨lp, [{ target := .collected kd, args := #[] }], W1, { target := .fn (.func gf) lb, args := #[.func (.yield lp) #[] #[]] }, W1, gf, #[.func (.yield lp) #[] #[]] ++ lb, W1, run_enterLoop_outer _ _ _ _ _, ?_, fun f' hf' => ?_, ?_, fun _ => cQ, ?_⟩
   · simp only [resolve, hg]
     simp [go_sem]
   · simp [Target.leads] at hf'; subst hf'; trivial
   · simp [invoke, go_sem, en]
   have mk : ∀ {W : World} {s : σ}, w.heap.size ≤ W.heap.size → Sep S0 w0 W (Zs ++ As s) → KoOk w.heap.size W (Zs ++ As s) → W.heap[kd]? = some (.deferred (some [])) → Sep S0 w0 W (Zs ++ (As s ++ [Nw kd])) := fun {W s} hsz h4 h5 hk => by
     rw [← List.append_assoc]
     refine ⟨h4.fr, fun A hA => ?_, List.pairwise_append.2 ⟨h4.apart, List.pairwise_singleton _ _, fun A hA B hB i h6 h7 => ?_⟩⟩
     · rcases List.mem_append.1 hA with hA | hA
       · exact h4.each A hA
       rw [List.mem_singleton.1 hA]
       exact ⟨hk, fun i (e : i = kd) => .inr (by rw [e]; exact hw0)⟩
     rw [List.mem_singleton.1 hB] at h7
     have e7 : i = kd := h7
     rcases h5 i ⟨A, hA, h6⟩ with h8 | ⟨o, h8, h9⟩
     · rw [e7] at h8; exact Nat.lt_irrefl _ h8
     rw [e7, hk] at h8; cases h8; cases h9
   refine (show CallsIn (FR none) 9 P gf (#[.func (.yield lp) #[] #[]] ++ lb) W1 _ from all).mono ?_
   rintro e W2 ⟨⟨v, rfl⟩, (⟨xs, hSx, ⟨s, h1, h2, h3, h4⟩, hlr, hk⟩ | ⟨pre, hSp, c, ⟨s, h1, h2, h3, h4⟩, hlr, hk⟩)⟩
   · have ko : Ko w.heap.size W2 (W2.putObj lp (.loop (rec_ .exhausted none))) := Ko.putObj _ hlr rfl hlpq
     refine ⟨none, W2.putObj lp (.loop (rec_ .exhausted none)), run_endLoop (P := P) hlr (by simp [rec_]), ?_⟩
     exact hdone kd xs s _ (Nat.le_refl _) hSx h1 (Nat.le_trans h2 ko.size) (mk (Nat.le_trans h2 ko.size) (h3.ko h4 ko hw0) (h4.ko ko) ((World.putObj_heap_other hne).trans hk)) _ ⟨by rw [← ha.defers]; rfl, ha.size, (ha.world hl _).val⟩
   have ko : Ko w.heap.size W2 (W2.putObj lp (.loop (rec_ .exhausted (some c)))) := Ko.putObj _ hlr rfl hlpq
   refine ⟨some c, W2.putObj lp (.loop (rec_ .exhausted (some c))), ?_, ?_⟩
   · have := run_endLoop (P := P) hlr (by simp [rec_])
     exact this
   exact hstop kd c pre s _ (Nat.le_refl _) hSp h1 (Nat.le_trans h2 ko.size) (mk (Nat.le_trans h2 ko.size) (h3.ko h4 ko hw0) (h4.ko ko) ((World.putObj_heap_other hne).trans hk)) _ ⟨by rw [← ha.defers]; rfl, ha.size, (ha.world hl _).val⟩
 -- one round
 rintro pre x W ⟨⟨s, hJs, hsz, hSs, hKs⟩, hlr, hk⟩ hlen
 have hy := run_yield (P := P) (args := encs x) hlr (by simp only [rec_]; exact hps x)
 refine ⟨fn, _, assign, body, hy, roundIn_of_wpIn hfn ?_⟩
 refine wpIn_mono (hassign lp x W a (ha.world hl W)) ?_
 intro e a1 W' hq
 cases e with
 | normal =>
   obtain ⟨b, hB, hKB, hA⟩ := hq
   have hU1 := hB.Ce
   have hlr1 : W'.heap[lp]? = some (.loop (rec_ .ready none)) := (hU1.block (lt_of_block hlr)).trans hlr
   have hk1' : W'.heap[kd]? = some (.deferred (some [])) := (hU1.block (lt_of_block hk)).trans hk
   refine ⟨_, run_beginRound hlr1 rfl, ?_⟩
   obtain ⟨W2, hW2⟩ : ∃ W2, W2 = W'.putObj lp (.loop { rec_ .ready none with state := .busy }) := ⟨_, rfl⟩
   rw [← hW2]
   have ko1 : Ko w.heap.size W' W2 := by rw [hW2]; exact Ko.putObj _ hlr1 rfl hlpq
   have l2 : W2.heap[lp]? = some (.loop { rec_ .ready none with state := .busy }) := by rw [hW2]; exact World.putObj_heap_same (lt_of_block hlr1)
   have k2 : W2.heap[kd]? = some (.deferred (some [])) := by rw [hW2]; exact (World.putObj_heap_other hne).trans hk1'
   have o2 : ∀ i, i ≠ lp → W2.heap[i]? = W'.heap[i]? := fun i hi => by rw [hW2]; exact World.putObj_heap_other hi
   have hS1 : Sep S0 w0 W' (Zs ++ (As s ++ Bx x b)) := by rw [← List.append_assoc]; exact hSs.join hB
   have hK1 : KoOk w.heap.size W' (Zs ++ (As s ++ Bx x b)) := by
     rw [← List.append_assoc]
     refine KoOk.fW.2 ⟨fun i hi => ?_, fun i hi => (hKB i hi).elim (fun h => by omega) .inr⟩
     rcases hKs i hi with h1 | ⟨o, h1, h2⟩
     · exact .inl h1
     exact .inr ⟨o, (hU1.block (lt_of_block h1)).trans h1, h2⟩
   have hS2 := hS1.ko hK1 ko1 hw0
   have hK2 := hK1.ko ko1
   have hsz2 : w.heap.size ≤ W2.heap.size := Nat.le_trans hsz (Nat.le_trans (Up.size hU1) ko1.size)
   refine wpIn_mono (hbody lp pre x s b W2 hJs hlen hsz2 hS2 hS2.right.self a1 (hA.world (henv x b) _)) ?_
   have fin : ∀ (s' : σ) (Rest : List Asr) (W3 : World) (jump : Option Code), Sep (Fs (As s ++ Bx x b)) W2 W3 (As s' ++ Rest) → KoOk w.heap.size W3 (As s') →
       ∃ W4, (Instr.endRound lp jump).run P W3 = .ok (.bool jump.isNone) W4 ∧ w.heap.size ≤ W4.heap.size ∧ Sep S0 w0 W4 (Zs ++ As s') ∧ KoOk w.heap.size W4 (Zs ++ As s') ∧ W4.heap[lp]? = some (.loop (rec_ (if jump.isNone then .ready else .done) jump)) ∧ W4.heap[kd]? = some (.deferred (some [])) ∧ Kx w.heap.size (fun i => (S0 i ∨ w0.heap.size ≤ i) ∧ ¬ Fs Zs i) (fun i => (S0 i ∨ w0.heap.size ≤ i) ∧ i < w.heap.size ∧ ¬ Fs Zs i) W W4 := by
     intro s' Rest W3 jump h5 h6
     have keepN : ∀ (k : Nat) (o : Obj), w.heap.size ≤ k → W2.heap[k]? = some o → o.isCells = false → W3.heap[k]? = some o := fun k o hk' ho hc => (h5.fr.block k (lt_of_block ho) (fun hf => by
       rcases (KoOk.fW.1 hK2).2 k hf with h7 | ⟨o', h7, h8⟩
       · omega
       rw [ho] at h7; cases h7; rw [hc] at h8; cases h8)).trans ho
     have l3 := keepN lp _ hlpq l2 rfl
     have k3 := keepN kd _ (Nat.le_refl _) k2 rfl
     have ko3 : ∀ (o' : Obj), Ko w.heap.size W3 (W3.putObj lp o') := fun o' => Ko.putObj _ l3 rfl hlpq
     have h7 : Sep S0 w0 W3 (Zs ++ As s') := (hS2.frame h5).sub (List.Sublist.append_left (List.sublist_append_left _ _) _)
     have h8 : KoOk w.heap.size W3 (Zs ++ As s') := KoOk.fW.2 ⟨X1 hZlow, h6⟩
     have hr := run_endRound (P := P) jump l3
     refine ⟨_, hr, Nat.le_trans hsz2 (Nat.le_trans h5.size (ko3 _).size), h7.ko h8 (ko3 _) hw0, h8.ko (ko3 _), World.putObj_heap_same (lt_of_block l3), (World.putObj_heap_other hne).trans k3, ?_⟩
     refine ⟨(ko3 _).os.trans (h5.fr.os.trans (ko1.os.trans hU1.os)), (ko3 _).tape.trans (h5.fr.tape.trans (ko1.tape.trans hU1.tape)), (ko3 _).output.trans (h5.fr.output.trans (ko1.output.trans hU1.output)), Nat.le_trans (Up.size hU1) (Nat.le_trans ko1.size (Nat.le_trans h5.size (ko3 _).size)), fun k o hk' ho => ?_⟩
     have e1 : W'.heap[k]? = some o := (hU1.block (lt_of_block hk')).trans hk'
     have nlp : k ≠ lp := fun e => by
       subst e
       rw [hlr1] at e1; cases e1
       rcases ho with ho | ⟨_, _, ho | ho⟩
       · cases ho.1
       · omega
       cases ho
     have e2 : W2.heap[k]? = some o := (o2 k nlp).trans e1
     have own : ∀ i, Fs (As s ++ Bx x b) i → S0 i ∨ w0.heap.size ≤ i := fun i ⟨A, hA, hi⟩ => (hS2.each A (List.mem_append_right _ hA)).2 i hi
     have nF : ¬ Fs (As s ++ Bx x b) k := fun hf => by
       rcases ho with ⟨h9, h10⟩ | ⟨h9, h10, h11⟩
       · exact h10 ⟨own k hf, fun hz => hS2.AL hz hf⟩
       rcases (KoOk.fW.1 hK2).2 k hf with h12 | ⟨o', h12, h13⟩
       · exact h10 ⟨own k hf, h12, fun hz => hS2.AL hz hf⟩
       rw [e2] at h12; cases h12; rw [h9] at h13; cases h13
     exact (World.putObj_heap_other nlp).trans ((h5.fr.block k (lt_of_block e2) nF).trans e2)
   intro e a2 W3 hp
   cases e with
   | normal =>
     obtain ⟨s', Rest, hJ', h5, h6⟩ := hp
     obtain ⟨W4, hr, h7, h8, h9, h10, h11, h12⟩ := fin s' Rest W3 none h5 h6
     exact ⟨_, _, hr, .inl ⟨rfl, ⟨⟨s', hJ', h7, h8, h9⟩, h10, h11⟩, h12⟩⟩
   | ret =>
     obtain ⟨s', Rest, hJ', h5, h6⟩ := hp
     obtain ⟨W4, hr, h7, h8, h9, h10, h11, h12⟩ := fin s' Rest W3 (some .ret) h5 h6
     exact ⟨_, _, hr, .inr ⟨rfl, .ret, ⟨s', hJ', h7, h8, h9⟩, h10, h11⟩⟩
   | exit id =>
     obtain ⟨s', Rest, hJ', h5, h6⟩ := hp
     obtain ⟨W4, hr, h7, h8, h9, h10, h11, h12⟩ := fin s' Rest W3 (some (.exit id)) h5 h6
     exact ⟨_, _, hr, .inr ⟨rfl, .exit id, ⟨s', hJ', h7, h8, h9⟩, h10, h11⟩⟩
   | goto t =>
     obtain ⟨s', Rest, hJ', h5, h6⟩ := hp
     obtain ⟨W4, hr, h7, h8, h9, h10, h11, h12⟩ := fin s' Rest W3 (some (.goto t)) h5 h6
     exact ⟨_, _, hr, .inr ⟨rfl, .goto t, ⟨s', hJ', h7, h8, h9⟩, h10, h11⟩⟩
   | panic ch => exact hp.elim
   | outgrown => exact hp.elim
 | ret => exact hq.elim
 | exit id => exact hq.elim
 | goto t => exact hq.elim
 | panic ch => exact hq.elim
 | outgrown => exact hq.elim
end
end Go.Wx
end
section
namespace Go.Wx
theorem OwnS.uU {α : Type} {w : World} {b e k : Nat} {enc : α → Array Value} {v : Value} {xs : List α} (h : OwnS w b e k enc v xs) (hk : ∀ x, (enc x).size = k) : v.oneCell' = true := by
 obtain ⟨ad, cp, rfl, _⟩ := h.sl hk
 rfl
theorem Gu {S0 : Nat → Prop} {w0 w : World} {Bs As : List Asr} {A : Asr} (h : Sep S0 w0 w (Bs ++ [Db As, A])) : Sep S0 w0 w (Bs ++ [Db (As ++ [A])]) := by
 have h1 := Sep.unfold (Bs := Bs) (As := As) (rest := [A]) h
 have h2 := I9 (Bs := Bs) (As := As ++ [A]) (rest := []) (by simpa using h1)
 exact h2
theorem Co (ks : List Int) : (Cc ks).length = ks.length := List.length_mergeSort _
theorem K3 (ls ps ss : List Fact) : (Bq ls ps ss).length ≤ ls.length + ps.length := by
 unfold Bq
 rw [Co]
 exact Nat.le_trans (List.length_filter_le Cu _) (Nat.le_trans (Rp ss (Kz ls) ps) (Nat.add_le_add_right (Ns ls) _))
theorem Nx (V : List (Int × Bool)) : (Cn V).2.length ≤ V.length := by
 unfold Cn
 split
 · rw [List.length_map]; exact List.length_filter_le _ _
 split
 · exact Nat.zero_le _
 rw [List.length_map]; exact Nat.le_refl _
theorem mI (tV ti : TypeId) {w0 w : World} {As : List Asr} (h : Sep no w0 w As) : Sep no w0 w [Al tV 3 VP.cells (.slice none 0 0) [], Db (Hv ti [])] := by
 have h1 := ((h.take 0).add (Up.refl _) (A' := Al tV 3 VP.cells (.slice none 0 0) []) (OwnS.nil _ _ _ _ _) (by intro i h; cases h)).add (Up.refl _) (A' := Db (Hv ti [])) ⟨by simp [Hv], by simp [Hv]⟩ (by rintro i ⟨A, hA, _⟩; simp [Hv] at hA)
 exact h1
theorem Rv (L : List (Int × Bool)) (id : Int) (s : Bool) : (Gt L id s).length ≤ L.length + 1 := by
 unfold Gt
 split
 · rw [List.length_map]; exact Nat.le_succ _
 rw [List.length_append]; exact Nat.le_refl _
theorem T0 {D : List WE} {w w' : World} {j : Nat} {A A' : Asr} (h : (Db ((D.map Vv).set j A)).holds w) (hj : j < D.length) (s : Stp A A' w w') : Stp (Db ((D.map Vv).set j A)) (Db ((D.map Vv).set j A')) w w' := by
 have h2 := Kq h (List.getElem?_set_self (by rw [List.length_map]; exact hj)) s
 rwa [List.set_set] at h2
theorem mJ {b r : Nat} {kv : List (Int × Value)} {done : List Int} {w : World} (h : IRng w b r kv done) : Stp (Fq b r kv done) (Cf b kv) w w := ⟨Fr.refl _ _, h.map, fun _ e => .inl (.inl e)⟩
theorem mK (V : List (Int × Bool)) : 0 ≤ (Cn V).1 ∧ (Cn V).1 ≤ 2 := by
 unfold Cn
 split
 · exact ⟨show (0 : Int) ≤ 2 by decide, show (2 : Int) ≤ 2 by decide⟩
 split
 · exact ⟨show (0 : Int) ≤ 0 by decide, show (0 : Int) ≤ 2 by decide⟩
 exact ⟨show (0 : Int) ≤ 1 by decide, show (1 : Int) ≤ 2 by decide⟩
end Go.Wx
namespace Go.Proofs.YtmimclgihlhaeaaGreat
open Go.Proofs.Tryz
open Go.Wx Go.RowKit
def uV (q : MC) : Cnd := ⟨87, #[.pointer (some ⟨q.bl, 0, none⟩), .pointer (some ⟨q.bt, 0, none⟩), .pointer (some ⟨q.bf, 0, none⟩)], q.p⟩
def G1 (q : MC) : Array Go.Value := (uV q).cells
theorem uW (q : MC) : (G1 q).all (·.oneCell') = true := by simp [G1, Cnd.cells, Cnd.v, Value.oneCell']
theorem zN {Q : List MC} {w : World} (h : (aQ 3 Q).holds w) : mC Tryz.prog w (Q.map uV) := fun c hc => by
 obtain ⟨q, hq, rfl⟩ := List.mem_map.1 hc
 obtain ⟨h1, h2, h3⟩ := Vc (Rq h q hq)
 exact ⟨87, _, rfl, tF, fun W u x => Mv x q.f q.t q.l q.bl q.bt q.bf W (h1.up u) (h2.up u) (h3.up u)⟩
theorem uX {w : World} {ad : Option Addr} {Q : List MC} (h : Els w ad 1 G1 Q) : Els w ad 1 Cnd.cells (Q.map uV) := fun i c hc => by
 rw [List.getElem?_map] at hc
 obtain ⟨q, hq, rfl⟩ := Option.map_eq_some_iff.1 hc
 exact h i q hq
theorem X3 (x : Fact) (B : Nat) (ad : Option Addr) (cp : Nat) (Q : List MC) (w : World) (hB : Blk w B #[.slice ad Q.length cp] 84) (hE : Els w ad 1 G1 Q) (hl : Q.length ≤ 100000) (hq : (aQ 3 Q).holds w) : Ret Tryz.prog 88 #[.agg x.cells, .pointer (some ⟨B, 0, none⟩)] w fun r w' => r = .bool (Q.any fun q => q.p x) ∧ Up w w' :=
 (X0 x B ad cp (Q.map uV) w (by rw [List.length_map]; exact hB) (uX hE) (by rw [List.length_map]; exact hl) (zN hq)).mono fun _ _ h => ⟨h.1.trans (by rw [List.any_map]; rfl), h.2⟩
set_option maxRecDepth 4000 in
theorem sP (a b : Plc) (w : World) : (Op.equalIn 10000 80 (.agg a.cells) (.agg b.cells)).run Tryz.prog w = .ok (aS a b) w := by
 have hf : Tryz.prog.underlying 80 = some (.struct (Tryz.prog.fieldsOf 80)) := by rw [Program.fieldsOf, underlying80]
 rw [run_equalIn_agg w 9999 80 _ _ hf stoodInHeld80]
 rw [Program.fieldsOf, underlying80]
 dsimp only
 iterate 2 (refine Qc cQ isAgg3 rfl rfl (run_equalIn_int w 9998 _ _ _ _ _ underlying3) ?_)
 rfl
theorem Mw (f t l : Int) (w : World) : Ret Tryz.prog 35 #[vi f, vi t, vi l] w fun r0 w' => ∃ bl bt bf, r0 = (uV ⟨f, t, l, bl, bt, bf⟩).v ∧ Wx.Sep no w w' [gY 3 ⟨f, t, l, bl, bt, bf⟩] := by
 obtain ⟨w0, rfl⟩ : ∃ w0, w0 = w := ⟨_, rfl⟩
 have hS := Sep.start no w0
 refine cS (n := 8) (m := 9) func35 rfl rfl rfl (CW.S (Ah (.L5 (.t rfl) rfl) rfl ?_))
 rintro _ w1 ⟨B3, rfl, NB3⟩
 replace hS := hS.Cj NB3
 refine Ah (.L5 (.t rfl) rfl) rfl ?_
 rintro _ w2 ⟨B4, rfl, NB4⟩
 replace hS := hS.Cj NB4
 refine Ah (.L5 (.t rfl) rfl) rfl ?_
 rintro _ w3 ⟨B5, rfl, NB5⟩
 replace hS := hS.Cj NB5
 refine LW.C (LW.S (CW.region (LW.pp (.makeFunc (.cons (.t rfl) (.cons (.t rfl) (.cons (.t rfl) .nil)))) (LW.A rfl (LW.T (CW.ret (Ae rfl rfl ⟨_, rfl, ?_⟩)))))))
 replace hS := (hS.Py 1 rfl).Py 0 rfl
 exact ⟨B5, B4, B3, rfl, I9 (Bs := []) (As := [Ck B5 #[vi l] 3, Ck B4 #[vi t] 3, Ck B3 #[vi f] 3]) (rest := []) hS⟩
theorem X4 (ad : Option Addr) (k cp : Nat) (w : World) : Ret Tryz.prog 36 #[.slice ad k cp] w fun r0 w' => ∃ B, r0 = .func (.func 88) #[] #[.pointer (some ⟨B, 0, none⟩)] ∧ Wx.Sep no w w' [Ck B #[.slice ad k cp] 84] := by
 obtain ⟨w0, rfl⟩ : ∃ w0, w0 = w := ⟨_, rfl⟩
 have hS := Sep.start no w0
 refine cS (n := 4) (m := 9) func36 rfl rfl rfl (CW.S (Ah (.L5 (.t rfl) rfl) rfl ?_))
 rintro _ w1 ⟨B1, rfl, NB1⟩
 replace hS := hS.Cj NB1
 refine LW.C (LW.S (CW.region (LW.pp (.makeFunc (.cons (.t rfl) .nil)) (LW.A rfl (LW.T (CW.ret (Ae rfl rfl ⟨_, rfl, ?_⟩)))))))
 exact ⟨B1, rfl, hS⟩
theorem T1 (v : Go.Value) (ks : List Int) (w : World) (h : OwnS w 0 3 1 Aq v ks) (hlen : ks.length < 4611686018427387904) : Ret Tryz.prog 38 #[v] w fun r w' => r = .tuple #[] ∧ Stp (Al 3 1 Aq v ks) (Al 3 1 Aq v (ks.mergeSort fun x y => decide (x ≤ y))) w w' := by
 have h0 := h
 obtain ⟨h1, ⟨rfl, hn⟩ | ⟨g, cap, cur, rfl, hg, hb, h2, h3, h4, h5⟩⟩ := h
 · have hks : ks = [] := List.eq_nil_of_length_eq_zero hn
   subst hks
   refine Calls.mono (Tryz.slices_Sort_int_none none 0 w) ?_
   rintro e' w' ⟨rfl, rfl⟩
   exact ⟨_, rfl, rfl, Fr.refl _ _, show OwnS w' 0 3 1 Aq (.slice none 0 0) (List.mergeSort [] _) from by simpa using h0, fun _ h => .inl h⟩
 rw [Nr] at h5
 have hl : g < w.heap.size := lt_of_block hb
 refine Calls.mono (Tryz.slices_Sort_int g 0 cap ks w (Go.holds_of_blockI hb (by simpa using h5)) hl hlen) ?_
 rintro e' w' ⟨rfl, n, os, rfl⟩
 have hg2 := Go.grownBy_sortedI (w := w) (g := g) (n := n) (os := os) (ks.mergeSort fun x y => decide (x ≤ y)).toArray
 have ho := Go.ownsRow_sortedI (w := w) (n := n) (os := os) (ss := ks) (ts := ks.mergeSort fun x y => decide (x ≤ y)) (by simp) hg hb h2 h3 h4
 refine ⟨_, rfl, rfl, ⟨hg2.os, hg2.tape, hg2.output, hg2.size, fun i hi hn => hg2.block i hi (fun e => hn (by cases e; rfl))⟩, ?_, fun _ h => .inl h⟩
 show World.ownsRow _ _ _ _ _ _ _
 rw [Nr, List.length_mergeSort]
 exact ho
set_option maxHeartbeats 2000000 in
set_option maxRecDepth 4000 in
theorem Oy (bc : Array Go.Value) (b : Base) (x : Exc) (w : World) (hC : BaseC w bc b) (hT : ∀ p ∈ b.Processes, Hf p) (hlP : b.Processes.length ≤ 10000) (hlG : b.Gaps.length ≤ 10000) (hlL : b.Lots.length ≤ 10000) (hls : b.Swaps.length ≤ 1000000000) : Ret Tryz.prog 16 #[.agg bc, .agg x.cells] w fun r0 w' => ∃ v L, r0 = v ∧ L.map VP.vd = K1 b x ∧ Wx.Sep no w w' [Al 32 3 VP.cells v L, Db (Hv 3 L)] := by
 have hsum : b.Lots.length + b.Processes.length ≤ 1000000000 := by omega
 obtain ⟨w0, rfl⟩ : ∃ w0, w0 = w := ⟨_, rfl⟩
 have hS := Sep.start no w0
 refine cS (n := 178) (m := 9) func16 rfl rfl rfl (CW.S (Ah (.C7 (.t rfl)) rfl ?_))
 rintro _ w1 ⟨B2, rfl, NB2⟩
 replace hS := hS.Cj NB2
 refine Ah (.C7 (.t rfl)) rfl ?_
 rintro _ w2 ⟨B3, rfl, NB3⟩
 replace hS := hS.Cj NB3
 refine LW.C (LW.S (CW.S (LW.pp (.la isAgg25 sizeOf25 rfl ((hS.blk 1 rfl).agg)) (LW.K (eC (.o rfl) (oZ)) rfl (J4 x _) ?_))))
 rintro _ w3 ⟨rfl, uw3⟩
 replace hS := hS.up uw3
 refine LW.pp (.not (.t rfl)) (LW.T (CW.cond (.t rfl) (fun h23 => ?_) (fun h23 => ?_)))
 ·replace h23 := dQ h23
  have hex : Hi x = false := by simpa using h23
  refine CW.S (LW.C (LW.T (CW.ret (Af (Ae rfl rfl ⟨_, rfl, ?_⟩)))))
  exact ⟨_, [], rfl, by unfold K1; rw [if_neg (by rw [hex]; exact Bool.false_ne_true)]; rfl, mI 32 3 hS⟩
 replace h23 := dQ h23
 have hex : Hi x = true := by simpa using h23
 have hexi := (Ll x).1 hex
 refine CW.skip (KW.then (CW.S (LW.pp (.fA 0 underlying25 rfl sizeOf3 rfl) (LW.pp (.ld isAgg3 rfl ((hS.blk 1 rfl).Ai rfl)) (LW.pp (.fA 1 underlying25 rfl sizeOf3 rfl) (LW.pp (.ld isAgg3 rfl ((hS.blk 1 rfl).Ai rfl)) (LW.pp (.build (cs := (Plc.mk x.tool x.chamber).cells) underlying80 zeroValue80 Iu (.cons (.t rfl) (.cons (.t rfl) .nil)) rfl) (Ah (.Az zeroValue80) rfl ?_))))))))
 rintro _ w4 ⟨B5, rfl, MB5⟩
 refine LW.E (.Ay sizeOf80 rfl (.t rfl) (.t rfl) (Plc.one _) MB5.blk rfl) ?_
 intro w5 LB5
 have NB5 := MB5.set LB5
 replace hS := hS.Cj NB5
 refine LW.S (CW.region (LW.pp (.fA 2 underlying25 rfl sizeOf3 rfl) (LW.pp (.ld isAgg3 rfl ((hS.blk 1 rfl).Ai rfl)) (LW.pp (.fA 3 underlying25 rfl sizeOf3 rfl) (LW.pp (.ld isAgg3 rfl ((hS.blk 1 rfl).Ai rfl)) (LW.pp (.fA 4 underlying25 rfl sizeOf3 rfl) (LW.pp (.ld isAgg3 rfl ((hS.blk 1 rfl).Ai rfl)) (LW.pp (.CR (.t rfl) oQ oQ) (LW.K (eC (.cons (.t rfl) (.cons (.t rfl) (.cons (.t rfl) .nil))) (sY)) rfl (Mw x.frm x.to (-x.err) _) ?_)))))))))
 rintro _ w6 ⟨bl0, bt0, bf0, rfl, hT36⟩
 replace hS := hS.join hT36
 refine LW.A rfl (LW.S (CW.region (LW.M rfl (LW.pp (.fA 2 underlying25 rfl sizeOf3 rfl) (LW.pp (.ld isAgg3 rfl ((hS.blk 1 rfl).Ai rfl)) (LW.pp (.fA 3 underlying25 rfl sizeOf3 rfl) (LW.pp (.ld isAgg3 rfl ((hS.blk 1 rfl).Ai rfl)) (LW.pp (.fA 4 underlying25 rfl sizeOf3 rfl) (LW.pp (.ld isAgg3 rfl ((hS.blk 1 rfl).Ai rfl)) (LW.K (eC (.cons (.t rfl) (.cons (.t rfl) (.cons (.t rfl) .nil))) (sY)) rfl (Mw x.frm x.to x.err _) ?_))))))))))
 rintro _ w7 ⟨bl1, bt1, bf1, rfl, hT44⟩
 replace hS := hS.join hT44
 refine Ah (.buildSlice (xs := [(⟨x.frm, x.to, -x.err, bl0, bt0, bf0⟩ : MC), (⟨x.frm, x.to, x.err, bl1, bt1, bf1⟩ : MC)]) (enc := G1) (mk := fun q => (uV q).v) underlying84 sizeOf82 zeroValue82 rfl cQ (fun _ => rfl) (fun _ => rfl) (.cons (.t rfl) (.cons (.t rfl) .nil)) rfl) rfl ?_
 intro v45 w8 hN45
 obtain ⟨u45, B45, rfl, e45, hO45⟩ := NewSl.own hN45 (fun _ => rfl) cQ (by simp [maxLen])
 replace hS := hS.add u45 (A' := Al 82 1 G1 (.slice (some ⟨B45, 0, none⟩) 2 2) [(⟨x.frm, x.to, -x.err, bl0, bt0, bf0⟩ : MC), (⟨x.frm, x.to, x.err, bl1, bt1, bf1⟩ : MC)]) hO45 (fun i h => by cases h; exact Nat.le_of_eq e45.symm)
 refine LW.A rfl (LW.S (CW.seq ?_))
 replace hS := (hS.Py 3 rfl).Py 3 rfl
 replace hS := I9 (Bs := [_, _, _, _]) (As := [(⟨x.frm, x.to, -x.err, bl0, bt0, bf0⟩ : MC), (⟨x.frm, x.to, x.err, bl1, bt1, bf1⟩ : MC)].map (gY 3)) (rest := []) hS
 obtain ⟨v10, h10, hs10⟩ := hC.at_ (j := 10) cQ
 obtain ⟨adG, cpG, rfl, hEG⟩ := (show Sl w0 v10 19 Fact.cells b.Gaps from hs10)
 refine CW.region (LW.pp (.fA 10 underlying38 rfl sizeOf23 rfl) (LW.pp (.ld isAgg23 rfl ((hS.blk 0 rfl).cell h10)) (LW.pp (.Ci underlying23 (.t rfl)) (LW.pp (.move (.const _)) (LW.T (CW.block (Am (σ := Nat × Go.Value × List MC) (fun s w => (s.1 ≤ b.Gaps.length) ∧ (s.2.2.length ≤ 2 + s.1) ∧ ((⟨x.frm, x.to, -x.err, bl0, bt0, bf0⟩ : MC) ∈ s.2.2) ∧ (s.2.2.map MC.key = (x.frm, x.to, -x.err) :: (x.frm, x.to, x.err) :: (Ir (b.Gaps.take s.1) x).map (zI x)) ∧ (Wx.Sep no w0 w [Ck B2 bc 38, Ck B3 x.cells 25, Ck B5 (Plc.mk x.tool x.chamber).cells 80, Al 82 1 G1 s.2.1 s.2.2, aQ 3 s.2.2])) (fun s => [(49, .eq (vi (s.1 : Int))), (7, .eq (s.2.1))]) ([(2, .eq _), (3, .eq _), (4, .eq _), (5, .eq _), (6, .eq _), (47, .eq _), (48, .eq _)]) (fun s => b.Gaps.length - s.1) (0, .slice (some ⟨B45, 0, none⟩) 2 2, [(⟨x.frm, x.to, -x.err, bl0, bt0, bf0⟩ : MC), (⟨x.frm, x.to, x.err, bl1, bt1, bf1⟩ : MC)]) ?_ ⟨rfl, rfl, rfl, rfl, rfl, rfl, rfl, rfl, rfl, trivial⟩ ?_)))))))
 ·exact ⟨Nat.zero_le _, Nat.le_refl _, List.mem_cons_self, rfl, hS⟩
 rintro ⟨i, v, Q⟩ w9 ⟨hi, hQn, hQ0, hQk, hS⟩
 dsimp only at hi hQn hQ0 hQk hS
 change CW _ _ _ _ _ _ _ ([(49, .eq (vi (i : Int))), (7, .eq (v))] ++ _) _
 refine CW.S (LW.pp (.lss (.t rfl) (.t rfl)) (LW.S (CW.cond (.t rfl) (fun h50 => ?_) (fun h50 => ?_))))
 ·replace h50 := dQ h50
  refine CW.skip (KW.then (CW.seq (CW.block (CW.seq ?_))))
  obtain ⟨y, hy⟩ := Ac (xs := b.Gaps) (i := i) oQ
  obtain ⟨By, oy, ay, hcy⟩ := (Els.up hEG hS.Ce) i y hy
  refine CW.region (LW.pp (.Aj underlying23 sizeOf36 (j := i) (.t rfl) (.t rfl) oQ ay) (LW.pp (.la isAgg36 sizeOf36 rfl (hcy)) (Ah (.Az zeroValue36) rfl ?_)))
  rintro _ w10 ⟨B9, rfl, MB9⟩
  refine LW.E (.Ay sizeOf36 rfl (.t rfl) (.t rfl) (Fact.one _) MB9.blk rfl) ?_
  intro w11 LB9
  have NB9 := MB9.set LB9
  replace hS := hS.Cj NB9
  refine LW.S (CW.region (LW.pp (.la isAgg80 sizeOf80 rfl ((hS.blk 2 rfl).agg)) (LW.pp (.fA 11 underlying36 rfl sizeOf3 rfl) (LW.pp (.ld isAgg3 rfl ((hS.blk 5 rfl).Ai rfl)) (LW.pp (.fA 12 underlying36 rfl sizeOf3 rfl) (LW.pp (.ld isAgg3 rfl ((hS.blk 5 rfl).Ai rfl)) (LW.pp (.build (cs := (Plc.mk y.Tool y.Chamber).cells) underlying80 zeroValue80 Iu (.cons (.t rfl) (.cons (.t rfl) .nil)) rfl) (LW.pp (.oX eqGuardType80 (sP _ _) (.t rfl) (.t rfl)) (LW.T (CW.cond (.t rfl) (fun h59 => ?_) (fun h59 => ?_)))))))))))
  ·replace h59 := dQ h59
   have hh : Dj x y = true := (Lm x y).symm.trans h59
   refine CW.region (LW.M rfl (LW.pp (.fA 5 underlying36 rfl sizeOf3 rfl) (LW.pp (.ld isAgg3 rfl ((hS.blk 5 rfl).Ai rfl)) (LW.pp (.fA 6 underlying36 rfl sizeOf3 rfl) (LW.pp (.ld isAgg3 rfl ((hS.blk 5 rfl).Ai rfl)) (LW.pp (.fA 4 underlying25 rfl sizeOf3 rfl) (LW.pp (.ld isAgg3 rfl ((hS.blk 1 rfl).Ai rfl)) (LW.K (eC (.cons (.t rfl) (.cons (.t rfl) (.cons (.t rfl) .nil))) (sY)) rfl (Mw y.Time y.Until x.err _) ?_))))))))
   rintro _ w12 ⟨bl2, bt2, bf2, rfl, hT67⟩
   replace hS := hS.join hT67
   refine Ah (.buildSlice (xs := [(⟨y.Time, y.Until, x.err, bl2, bt2, bf2⟩ : MC)]) (enc := G1) (mk := fun q => (uV q).v) underlying84 sizeOf82 zeroValue82 rfl cQ (fun _ => rfl) (fun _ => rfl) (.cons (.t rfl) .nil) rfl) rfl ?_
   rintro _ w13 ⟨B68, cB68, rfl, NB68, yB68, xB68⟩
   replace hS := hS.up NB68.up
   have hE68 := xB68
   refine Ah (.A8 (enc := G1) (bytes := 8) (i := Tryz.t82) underlying84 kQ rfl rfl rfl rfl cQ (fun _ => rfl) uW (.t rfl) (.t rfl) (hS.own 3 rfl) (Ak hE68) (by simp only [maxLen, List.length_cons, List.length_nil]; omega) (by simp only [List.length_cons, List.length_nil]; omega)) rfl ?_
   intro v69 w14 Gw14
   replace hS := hS.Dh 3 rfl Gw14
   refine LW.A rfl (LW.nil (KW.inBlock (KW.then (CW.region (LW.pp (.inc (.t rfl) oQ) (LW.M rfl (LW.nil (KW.round ?_))))))))
   exact ⟨(i + 1, v69, Q ++ [(⟨y.Time, y.Until, x.err, bl2, bt2, bf2⟩ : MC)]), ⟨by show i + 1 ≤ _; omega, by show (Q ++ [_]).length ≤ _; rw [List.length_append]; show Q.length + 1 ≤ 2 + (i + 1); omega, List.mem_append_left _ hQ0, by show (Q ++ [_]).map MC.key = _; rw [List.map_append, hQk, mF hy hh, List.map_append]; rfl, by exact aR (Bs := [_, _, _, _]) (hS.sub (.cons_cons _ (.cons_cons _ (.cons_cons _ (.cons_cons _ (.cons_cons _ (.cons _ (.cons_cons _ .slnil))))))))⟩, ⟨rfl, rfl, rfl, rfl, rfl, rfl, rfl, rfl, rfl, trivial⟩, by show b.Gaps.length - (i + 1) < b.Gaps.length - i; omega⟩
  replace h59 := dQ h59
  have hh : Dj x y = false := (Lm x y).symm.trans (by simpa using h59)
  refine CW.skip (KW.inBlock (KW.then (CW.region (LW.pp (.inc (.t rfl) oQ) (LW.M rfl (LW.nil (KW.round ?_)))))))
  exact ⟨(i + 1, v, Q), ⟨by show i + 1 ≤ _; omega, by show Q.length ≤ 2 + (i + 1); omega, hQ0, by show Q.map MC.key = _; rw [hQk, rB hy hh], by exact hS.take 5⟩, ⟨rfl, rfl, rfl, rfl, rfl, rfl, rfl, rfl, rfl, trivial⟩, by show b.Gaps.length - (i + 1) < b.Gaps.length - i; omega⟩
 replace h50 := dQ h50
 refine CW.exit (Aa (Aa (Ad (KW.then (CW.seq ?_)))))
 have hil : i = b.Gaps.length := by omega
 rw [hil, List.take_length] at hQk
 obtain ⟨adq, cpq, rfl, _⟩ := (hS.own 3 rfl).sl (fun _ => rfl)
 have hQl : Q.length ≤ 100000 := by have h5 := congrArg List.length hQk; simp only [List.length_map, List.length_cons, Ir] at h5; have h6 := List.length_filter_le (Dj x) b.Gaps; omega
 refine CW.region (LW.M rfl (LW.K (eC (.o rfl) (BC)) rfl (X4 _ _ _ _) ?_))
 rintro _ w15 ⟨Be, rfl, hTe⟩
 replace hS := hS.join hTe
 refine LW.A rfl (LW.S (CW.region (LW.r REv.makeMap rfl rfl rfl rfl ?_)))
 rintro _ w16 ⟨Bw, rfl, M_, u_, e_, z_⟩
 replace hS := hS.add u_ (A' := Cf Bw []) M_ (fun i (e : i = Bw) => by omega)
 refine LW.A rfl (LW.S (CW.seq ?_))
 replace hS := hS.add (Up.refl _) (A' := dL []) ⟨by simp, by simp⟩ (by rintro i ⟨A, hA, _⟩; simp at hA)
 obtain ⟨v00, h00, hs00⟩ := hC.at_ (j := 0) cQ
 obtain ⟨adP, cpP, rfl, hEP⟩ := (show Sl w0 v00 19 Fact.cells b.Processes from hs00)
 refine CW.region (LW.pp (.fA 0 underlying38 rfl sizeOf23 rfl) (LW.pp (.ld isAgg23 rfl ((hS.blk 0 rfl).cell h00)) (LW.pp (.Ci underlying23 (.t rfl)) (LW.pp (.move (.const _)) (LW.T (CW.block (Am (σ := Nat × List WE) (fun s w => (s.1 ≤ b.Processes.length) ∧ (s.2.map WE.pl = (Lt b.Swaps b.Gaps x (b.Processes.take s.1))) ∧ ((s.2.map (·.w)).Nodup) ∧ (∀ e ∈ s.2, (e.L.map (·.1)).Nodup) ∧ (∀ e ∈ s.2, e.L.length ≤ s.1) ∧ (Wx.Sep no w0 w [Ck B2 bc 38, Ck B3 x.cells 25, Ck B5 (Plc.mk x.tool x.chamber).cells 80, Al 82 1 G1 (.slice adq Q.length cpq) Q, aQ 3 Q, Ck Be #[.slice adq Q.length cpq] 84, Cf Bw (s.2.map WE.kv), dL s.2])) (fun s => [(77, .eq (vi (s.1 : Int)))]) ([(2, .eq _), (4, .eq _), (5, .eq _), (6, .eq _), (10, .eq _), (11, .eq _), (75, .eq _), (76, .eq _)]) (fun s => b.Processes.length - s.1) (0, []) ?_ ⟨rfl, rfl, rfl, rfl, rfl, rfl, rfl, rfl, rfl, trivial⟩ ?_)))))))
 ·exact ⟨Nat.zero_le _, rfl, List.nodup_nil, (fun _ h => (by cases h)), (fun _ h => (by cases h)), hS⟩
 rintro ⟨i, D⟩ w17 ⟨hi, hDp, hDn, hDl, hDk, hS⟩
 dsimp only at hi hDp hDn hDl hDk hS
 change CW _ _ _ _ _ _ _ ([(77, .eq (vi (i : Int)))] ++ _) _
 refine CW.S (LW.pp (.lss (.t rfl) (.t rfl)) (LW.S (CW.cond (.t rfl) (fun h78 => ?_) (fun h78 => ?_))))
 ·replace h78 := dQ h78
  refine CW.skip (KW.then (CW.seq (CW.block (CW.seq ?_))))
  obtain ⟨y, hy⟩ := Ac (xs := b.Processes) (i := i) oQ
  obtain ⟨By, oy, ay, hcy⟩ := (Els.up hEP hS.Ce) i y hy
  have hmay := rC hQk (hT y (List.mem_of_getElem? hy)) oQ
  refine CW.region (LW.pp (.Aj underlying23 sizeOf36 (j := i) (.t rfl) (.t rfl) oQ ay) (LW.pp (.la isAgg36 sizeOf36 rfl (hcy)) (Ah (.Az zeroValue36) rfl ?_)))
  rintro _ w18 ⟨B13, rfl, MB13⟩
  refine LW.E (.Ay sizeOf36 rfl (.t rfl) (.t rfl) (Fact.one _) MB13.blk rfl) ?_
  intro w19 LB13
  have NB13 := MB13.set LB13
  replace hS := hS.Cj NB13
  refine LW.S (CW.S (LW.pp (.la isAgg80 sizeOf80 rfl ((hS.blk 2 rfl).agg)) (LW.pp (.fA 11 underlying36 rfl sizeOf3 rfl) (LW.pp (.ld isAgg3 rfl ((hS.blk 8 rfl).Ai rfl)) (LW.pp (.fA 12 underlying36 rfl sizeOf3 rfl) (LW.pp (.ld isAgg3 rfl ((hS.blk 8 rfl).Ai rfl)) (LW.pp (.build (cs := (Plc.mk y.Tool y.Chamber).cells) underlying80 zeroValue80 Iu (.cons (.t rfl) (.cons (.t rfl) .nil)) rfl) (LW.pp (.AN eqGuardType80 (sP _ _) (.t rfl) (.t rfl)) (LW.M rfl (LW.g rfl rfl rfl rfl rfl rfl rfl (fun hc => PEv.move (.t rfl)) (LW.g rfl rfl rfl rfl rfl rfl rfl (fun hc => PEv.la isAgg36 sizeOf36 rfl ((hS.blk 8 rfl).agg)) (LW.gc rfl rfl rfl rfl rfl rfl rfl rfl (fun hc => Cq (f := 88) (lb := #[.pointer (some ⟨Be, 0, none⟩)]) (vs := [.agg y.cells]) vQ (.cons vQ .nil) (CJ)) (fun hc => X3 y Be adq cpq Q _ (hS.blk 5 rfl) (Ed (hS.own 3 rfl) (fun _ => rfl)) oQ (hS.get 4 rfl)) ?_))))))))))))
  intro w20 uw20
  replace hS := hS.up uw20
  refine LW.g rfl rfl rfl rfl rfl rfl rfl (fun hc => PEv.not vQ) (LW.pp (.A7 (.t rfl) (fun hp => (by exact .cond rfl (by (rw [hp]; rfl))))) (LW.T (CW.cond (.t rfl) (fun h93 => ?_) (fun h93 => ?_))))
  ·replace h93 := dQ h93
   have hno : (Dj x y && Ov b.Gaps x y) = false := by have h5 := h93; rw [Lm, hmay] at h5; revert h5; cases Dj x y <;> cases Ov b.Gaps x y <;> simp
   refine CW.exit (Aa (Ad (KW.then (CW.region (LW.pp (.inc (.t rfl) oQ) (LW.M rfl (LW.nil (KW.round ?_))))))))
   exact ⟨(i + 1, D), ⟨by show i + 1 ≤ _; omega, by show D.map WE.pl = _; rw [Ow hy, hno, hDp]; rfl, hDn, hDl, fun e he => Nat.le_succ_of_le (hDk e he), by exact hS.take 8⟩, ⟨rfl, rfl, rfl, rfl, rfl, rfl, rfl, rfl, rfl, trivial⟩, by show b.Processes.length - (i + 1) < b.Processes.length - i; omega⟩
  replace h93 := dQ h93
  have hno : (Dj x y && Ov b.Gaps x y) = true := by have h5 := h93; rw [Lm, hmay] at h5; revert h5; cases Dj x y <;> cases Ov b.Gaps x y <;> simp
  refine CW.skip (KW.then (CW.S (LW.pp (.Ee isAgg38 sizeOf38 (hC.size) (.t rfl) ((hS.blk 0 rfl).agg)) (LW.pp (.fA 7 underlying36 rfl sizeOf3 rfl) (LW.pp (.ld isAgg3 rfl ((hS.blk 8 rfl).Ai rfl)) (LW.pp (.fA 5 underlying36 rfl sizeOf3 rfl) (LW.pp (.ld isAgg3 rfl ((hS.blk 8 rfl).Ai rfl)) (LW.K (eC (.cons (.t rfl) (.cons (.t rfl) (.cons (.t rfl) .nil))) (wB)) rfl (dJ bc b y.Wafer y.Time _ (hC.up hS.Ce) hls) ?_))))))))
  rintro _ w21 ⟨rfl, uw21⟩
  replace hS := hS.up uw21
  obtain ⟨wf, hwf⟩ : ∃ wf, wf = Iy b.Swaps y.Time y.Wafer := ⟨_, rfl⟩
  rw [← hwf]
  refine LW.A rfl (LW.S (CW.seq ?_))
  cases hq19 : D.find? (fun e => decide (e.w = wf)) with
  | none =>
   have hnw := Pk hq19
   refine CW.region (LW.M rfl (LW.M rfl (LW.pp (.G4 (ok := false) underlying86 underlying3 zeroValue87 (.t rfl) (.t rfl) (hS.get 6 rfl) (by rw [Rs]; exact hnw)) (LW.pp (.tr (Mk.PEv.Ty underlying87 (.t rfl)) (rfl)) (LW.T (CW.cond_true (.t rfl) (CW.region (LW.M rfl (LW.M rfl (LW.r REv.makeMap rfl rfl rfl rfl ?_))))))))))
   rintro _ w22 ⟨B106, rfl, M_, u_, e_, z_⟩
   replace hS := hS.add u_ (A' := Vv ⟨wf, B106, []⟩) M_ (fun i (e : i = B106) => by omega)
   refine LW.E (.mapUpdate underlying86 underlying3 (.t rfl) (.t rfl) (.t rfl) (hS.get 6 rfl)) ?_
   rintro w23 ⟨Mu, Ku, zu⟩
   rw [uP hnw] at Mu
   replace hS := hS.Dh 6 rfl (Rr Mu Ku)
   refine LW.T ?_
   replace hS := (hS.Py 7 rfl).Py 8 rfl
   replace hS := hG (Bs := [_, _, _, _, _, _, _, _]) hS
   obtain ⟨D1, hD1⟩ : ∃ D1, D1 = D ++ [(⟨wf, B106, []⟩ : WE)] := ⟨_, rfl⟩
   rw [← hD1] at hS
   obtain ⟨j1, hjj⟩ : ∃ j1, j1 = D.length := ⟨_, rfl⟩
   obtain ⟨e1, he1⟩ : ∃ e1, e1 = (⟨wf, B106, []⟩ : WE) := ⟨_, rfl⟩
   have hj1 : D1[j1]? = some e1 := by rw [hD1, hjj, he1]; simp
   have hw1 : e1.w = wf := by rw [he1]
   have hDn1 : (D1.map (·.w)).Nodup := by rw [hD1, List.map_append]; exact List.nodup_append.2 ⟨hDn, by simp, fun a ha c hc => by simp at hc; subst hc; exact fun e => hnw (e ▸ ha)⟩
   have hDl1 : ∀ e ∈ D1, (e.L.map (·.1)).Nodup := by rw [hD1]; exact fun e he => (List.mem_append.1 he).elim (hDl e) (fun h => by rw [List.mem_singleton.1 h]; exact List.nodup_nil)
   have hDk1 : ∀ e ∈ D1, e.L.length ≤ i := by rw [hD1]; exact fun e he => (List.mem_append.1 he).elim (hDk e) (fun h => by rw [List.mem_singleton.1 h]; exact Nat.zero_le _)
   have hpl : (D1.set j1 { e1 with L := Gt e1.L y.ID (Dk x y) }).map WE.pl = Rt (D.map WE.pl) wf y.ID (Dk x y) := by rw [hD1, hjj, he1]; exact uQ hnw
   have hsu : jC x.frm x.to (-x.err) y = Dk x y := Xz (hT y (List.mem_of_getElem? hy)) oQ
   have hq0 := Vc (Rq (hS.get 4 rfl) (⟨x.frm, x.to, -x.err, bl0, bt0, bf0⟩ : MC) hQ0)
   have hn1 := hDl1 e1 (List.mem_of_getElem? hj1)
   have hmem1 : (wf, Go.Value.map (some e1.b)) ∈ D1.map WE.kv := List.mem_map.2 ⟨e1, List.mem_of_getElem? hj1, by rw [← hw1]; rfl⟩
   refine C2 16 kQ kQ kQ kQ kQ rfl rfl (HW.pp (.move (.t rfl)) (HW.pp (.move (.t rfl)) (HW.pp (.C1 (ok := false) underlying86 underlying3 (.t rfl) (.t rfl) (hS.get 6 rfl) hmem1) (HW.pp (.fA 1 underlying36 rfl sizeOf3 rfl) (HW.pp (.ld isAgg3 rfl ((hS.blk 7 rfl).Ai rfl)) (HW.pp (.move (.t rfl)) (HW.pp (.move (.t rfl)) (HW.pp (.C1 (ok := false) underlying86 underlying3 (.t rfl) (.t rfl) (hS.get 6 rfl) hmem1) (HW.pp (.fA 1 underlying36 rfl sizeOf3 rfl) (HW.pp (.ld isAgg3 rfl ((hS.blk 7 rfl).Ai rfl)) (HW.pp (.sO underlying87 underlying3 zeroValue4 (.t rfl) (.t rfl) (Nu (hS.get 8 rfl) hj1) hn1) (HW.pp (.move (.t rfl)) (HW.g rfl rfl rfl rfl rfl rfl (fun hc => PEv.move (.t rfl)) (HW.g rfl rfl rfl rfl rfl rfl (fun hc => PEv.la isAgg36 sizeOf36 rfl ((hS.blk 7 rfl).agg)) (HW.gc rfl rfl rfl rfl rfl rfl (fun hc a w _ ha => Cq (f := 87) (lb := #[.pointer (some ⟨bl0, 0, none⟩), .pointer (some ⟨bt0, 0, none⟩), .pointer (some ⟨bf0, 0, none⟩)]) (vs := [.agg y.cells]) vQ (.cons vQ .nil) (tF) a ha) (fun hc w hu => Mv y x.frm x.to (-x.err) bl0 bt0 bf0 w (hq0.1.up hu) (hq0.2.1.up hu) (hq0.2.2.up hu)) (HW.pp (.A7 (.t rfl) (fun hp => (by exact .cond rfl (by (rw [hp]; rfl))))) (HW.nil ?_)))))))))))))))))
   intro w24 uw24
   replace hS := hS.up uw24
   refine LW.E (.mapUpdate underlying87 underlying3 (.t rfl) (.t rfl) (.t rfl) (Nu (hS.get 8 rfl) hj1)) ?_
   rintro w25 ⟨Mu, Ku, zu⟩
   rw [hsu, Ve hn1] at Mu
   replace hS := hS.Dh 8 rfl (dR (hS.get 8 rfl) hj1 Mu Ku)
   rw [← dO hj1 (Gt e1.L y.ID (Dk x y))] at hS
   refine LW.nil (KW.inBlock (KW.then (CW.region (LW.pp (.inc (.t rfl) oQ) (LW.M rfl (LW.nil (KW.round ?_)))))))
   exact ⟨(i + 1, D1.set j1 { e1 with L := Gt e1.L y.ID (Dk x y) }), ⟨by show i + 1 ≤ _; omega, by show (D1.set j1 _).map WE.pl = _; rw [Ow hy, hno, if_pos rfl, ← hwf, ← hDp]; exact hpl, by show ((D1.set j1 _).map (·.w)).Nodup; rw [dP hj1]; exact hDn1, fun e he => (List.mem_or_eq_of_mem_set he).elim (hDl1 e) fun h => by rw [h]; exact Mt hn1 _ _, fun e he => (List.mem_or_eq_of_mem_set he).elim (fun h => Nat.le_succ_of_le (hDk1 e h)) fun h => by rw [h]; exact Nat.le_trans (Rv _ _ _) (Nat.succ_le_succ (hDk1 e1 (List.mem_of_getElem? hj1))), by exact hS.sub (.cons_cons _ (.cons_cons _ (.cons_cons _ (.cons_cons _ (.cons_cons _ (.cons_cons _ (.cons_cons _ (.cons _ (.cons_cons _ .slnil)))))))))⟩, ⟨rfl, rfl, rfl, rfl, rfl, rfl, rfl, rfl, rfl, trivial⟩, by show b.Processes.length - (i + 1) < b.Processes.length - i; omega⟩
  | some e =>
   obtain ⟨je, hje, hew⟩ := Pm hq19
   refine CW.region (LW.M rfl (LW.M rfl (LW.pp (.C1 (ok := false) underlying86 underlying3 (.t rfl) (.t rfl) (hS.get 6 rfl) (List.mem_map.2 ⟨e, List.mem_of_getElem? hje, by rw [← hew]; rfl⟩)) (LW.pp (.fa (Mk.PEv.Ty underlying87 (.t rfl)) (rfl)) (LW.T (CW.cond_false (.t rfl) (CW.skip (KW.then ?_))))))))
   replace hS := hS.Py 7 rfl
   obtain ⟨D1, hD1⟩ : ∃ D1, D1 = D := ⟨_, rfl⟩
   rw [← hD1] at hS
   obtain ⟨j1, hjj⟩ : ∃ j1, j1 = je := ⟨_, rfl⟩
   obtain ⟨e1, he1⟩ : ∃ e1, e1 = e := ⟨_, rfl⟩
   have hj1 : D1[j1]? = some e1 := by rw [hD1, hjj, he1]; exact hje
   have hw1 : e1.w = wf := by rw [he1]; exact hew
   have hDn1 : (D1.map (·.w)).Nodup := by rw [hD1]; exact hDn
   have hDl1 : ∀ e ∈ D1, (e.L.map (·.1)).Nodup := by rw [hD1]; exact hDl
   have hDk1 : ∀ e ∈ D1, e.L.length ≤ i := by rw [hD1]; exact hDk
   have hpl : (D1.set j1 { e1 with L := Gt e1.L y.ID (Dk x y) }).map WE.pl = Rt (D.map WE.pl) wf y.ID (Dk x y) := by rw [hD1, hjj, he1, uS hDn hje, hew]
   have hsu : jC x.frm x.to (-x.err) y = Dk x y := Xz (hT y (List.mem_of_getElem? hy)) oQ
   have hq0 := Vc (Rq (hS.get 4 rfl) (⟨x.frm, x.to, -x.err, bl0, bt0, bf0⟩ : MC) hQ0)
   have hn1 := hDl1 e1 (List.mem_of_getElem? hj1)
   have hmem1 : (wf, Go.Value.map (some e1.b)) ∈ D1.map WE.kv := List.mem_map.2 ⟨e1, List.mem_of_getElem? hj1, by rw [← hw1]; rfl⟩
   refine C2 16 kQ kQ kQ kQ kQ rfl rfl (HW.pp (.move (.t rfl)) (HW.pp (.move (.t rfl)) (HW.pp (.C1 (ok := false) underlying86 underlying3 (.t rfl) (.t rfl) (hS.get 6 rfl) hmem1) (HW.pp (.fA 1 underlying36 rfl sizeOf3 rfl) (HW.pp (.ld isAgg3 rfl ((hS.blk 7 rfl).Ai rfl)) (HW.pp (.move (.t rfl)) (HW.pp (.move (.t rfl)) (HW.pp (.C1 (ok := false) underlying86 underlying3 (.t rfl) (.t rfl) (hS.get 6 rfl) hmem1) (HW.pp (.fA 1 underlying36 rfl sizeOf3 rfl) (HW.pp (.ld isAgg3 rfl ((hS.blk 7 rfl).Ai rfl)) (HW.pp (.sO underlying87 underlying3 zeroValue4 (.t rfl) (.t rfl) (Nu (hS.get 8 rfl) hj1) hn1) (HW.pp (.move (.t rfl)) (HW.g rfl rfl rfl rfl rfl rfl (fun hc => PEv.move (.t rfl)) (HW.g rfl rfl rfl rfl rfl rfl (fun hc => PEv.la isAgg36 sizeOf36 rfl ((hS.blk 7 rfl).agg)) (HW.gc rfl rfl rfl rfl rfl rfl (fun hc a w _ ha => Cq (f := 87) (lb := #[.pointer (some ⟨bl0, 0, none⟩), .pointer (some ⟨bt0, 0, none⟩), .pointer (some ⟨bf0, 0, none⟩)]) (vs := [.agg y.cells]) vQ (.cons vQ .nil) (tF) a ha) (fun hc w hu => Mv y x.frm x.to (-x.err) bl0 bt0 bf0 w (hq0.1.up hu) (hq0.2.1.up hu) (hq0.2.2.up hu)) (HW.pp (.A7 (.t rfl) (fun hp => (by exact .cond rfl (by (rw [hp]; rfl))))) (HW.nil ?_)))))))))))))))))
   intro w26 uw26
   replace hS := hS.up uw26
   refine LW.E (.mapUpdate underlying87 underlying3 (.t rfl) (.t rfl) (.t rfl) (Nu (hS.get 8 rfl) hj1)) ?_
   rintro w27 ⟨Mu, Ku, zu⟩
   rw [hsu, Ve hn1] at Mu
   replace hS := hS.Dh 8 rfl (dR (hS.get 8 rfl) hj1 Mu Ku)
   rw [← dO hj1 (Gt e1.L y.ID (Dk x y))] at hS
   refine LW.nil (KW.inBlock (KW.then (CW.region (LW.pp (.inc (.t rfl) oQ) (LW.M rfl (LW.nil (KW.round ?_)))))))
   exact ⟨(i + 1, D1.set j1 { e1 with L := Gt e1.L y.ID (Dk x y) }), ⟨by show i + 1 ≤ _; omega, by show (D1.set j1 _).map WE.pl = _; rw [Ow hy, hno, if_pos rfl, ← hwf, ← hDp]; exact hpl, by show ((D1.set j1 _).map (·.w)).Nodup; rw [dP hj1]; exact hDn1, fun e he => (List.mem_or_eq_of_mem_set he).elim (hDl1 e) fun h => by rw [h]; exact Mt hn1 _ _, fun e he => (List.mem_or_eq_of_mem_set he).elim (fun h => Nat.le_succ_of_le (hDk1 e h)) fun h => by rw [h]; exact Nat.le_trans (Rv _ _ _) (Nat.succ_le_succ (hDk1 e1 (List.mem_of_getElem? hj1))), by exact hS.sub (.cons_cons _ (.cons_cons _ (.cons_cons _ (.cons_cons _ (.cons_cons _ (.cons_cons _ (.cons_cons _ (.cons _ (.cons_cons _ .slnil)))))))))⟩, ⟨rfl, rfl, rfl, rfl, rfl, rfl, rfl, rfl, rfl, trivial⟩, by show b.Processes.length - (i + 1) < b.Processes.length - i; omega⟩
 replace h78 := dQ h78
 refine CW.exit (Aa (Aa (Ad (KW.then (CW.seq ?_)))))
 have hil2 : i = b.Processes.length := by omega
 rw [hil2, List.take_length] at hDp
 refine CW.region (LW.C (LW.S (CW.S (LW.pp (.Ee isAgg38 sizeOf38 (hC.size) (.t rfl) ((hS.blk 0 rfl).agg)) (LW.K (eC (.o rfl) (BD)) rfl (aK bc b _ (hC.up hS.Ce) hls hsum) ?_)))))
 rintro v125 w28 ⟨hO125, uw28⟩
 replace hS := hS.add uw28 (A' := Al 3 1 Aq v125 (Bq b.Lots b.Processes b.Swaps)) (hO125.mono (Nat.zero_le _)) (fun i h => hO125.base i h)
 obtain ⟨adw, cpw, rfl, _⟩ := (hS.own 8 rfl).sl (fun _ => rfl)
 have hWl : (Bq b.Lots b.Processes b.Swaps).length ≤ 100000 := Nat.le_trans (K3 _ _ _) oQ
 replace hS := hS.sub (.cons _ (.cons _ (.cons _ (.cons _ (.cons _ (.cons _ (.cons_cons _ (.cons_cons _ (.cons_cons _ .slnil)))))))))
 replace hS := hS.J9 (OwnS.nil _ 0 32 3 VP.cells)
 replace hS := hS.add (Up.refl _) (A' := Db (Hv 3 [])) ⟨by simp [Hv], by simp [Hv]⟩ (by rintro i ⟨A, hA, _⟩; simp [Hv] at hA)
 refine LW.pp (.Ci underlying30 (.t rfl)) (LW.pp (.move (.const _)) (LW.T (CW.block (Am (σ := Nat × Go.Value × List VP) (fun s w => (s.1 ≤ (Bq b.Lots b.Processes b.Swaps).length) ∧ (s.2.2.map VP.vd = ((Bq b.Lots b.Processes b.Swaps).take s.1).map fun w => Px w (lookW (Lt b.Swaps b.Gaps x b.Processes) w)) ∧ (Wx.Sep no w0 w [Cf Bw (D.map WE.kv), dL D, Al 3 1 Aq (.slice adw (Bq b.Lots b.Processes b.Swaps).length cpw) (Bq b.Lots b.Processes b.Swaps), Al 32 3 VP.cells s.2.1 s.2.2, Db (Hv 3 s.2.2)])) (fun s => [(127, .eq (vi (s.1 : Int))), (15, .eq (s.2.1))]) ([(4, .eq _), (11, .eq _), (125, .eq _), (126, .eq _)]) (fun s => (Bq b.Lots b.Processes b.Swaps).length - s.1) (0, .slice none 0 0, []) ?_ ⟨rfl, rfl, rfl, rfl, rfl, rfl, trivial⟩ ?_))))
 ·exact ⟨Nat.zero_le _, rfl, hS⟩
 rintro ⟨k, v, L⟩ w29 ⟨hk, hL, hS⟩
 dsimp only at hk hL hS
 have hLl : L.length = k := (by have h := congrArg List.length hL; rw [List.length_map, List.length_map, List.length_take] at h; omega)
 change CW _ _ _ _ _ _ _ ([(127, .eq (vi (k : Int))), (15, .eq (v))] ++ _) _
 refine CW.S (LW.pp (.lss (.t rfl) (.t rfl)) (LW.S (CW.cond (.t rfl) (fun h128 => ?_) (fun h128 => ?_))))
 ·replace h128 := dQ h128
  refine CW.skip (KW.then (CW.seq (CW.block (CW.seq ?_))))
  obtain ⟨wf, hy⟩ := Ac (xs := (Bq b.Lots b.Processes b.Swaps)) (i := k) oQ
  obtain ⟨By, oy, ay, hcy⟩ := (Ed (hS.own 2 rfl) (fun _ => rfl)) k wf hy
  refine CW.region (LW.pp (.Aj underlying30 sizeOf3 (j := k) (.t rfl) (.t rfl) oQ ay) (LW.pp (.ld isAgg3 rfl (hcy.nth (j := 0) rfl)) (LW.A rfl (LW.S (CW.region (LW.M rfl (LW.pp (.build (cs := VP.cells ⟨⟨wf, 0, []⟩, none, 0⟩) underlying32 zeroValue32 Ek (.cons (.t rfl) .nil) rfl) (Ah (.Az zeroValue32) rfl ?_))))))))
  rintro _ w30 ⟨B18, rfl, MB18⟩
  refine LW.E (.Ay sizeOf32 rfl (.t rfl) (.t rfl) (VP.one _) MB18.blk rfl) ?_
  intro w31 LB18
  have NB18 := MB18.set LB18
  replace hS := hS.Cj NB18
  refine LW.nil ?_
  replace hS := hS.J9 (OwnS.nil _ 0 3 1 Aq)
  refine KW.then (CW.seq (CW.seq ?_))
  cases hq28 : D.find? (fun e => decide (e.w = wf)) with
  | none =>
   have hnw := Pk hq28
   have hlk := aT hq28
   refine CW.region (LW.M rfl (LW.M rfl (LW.pp (.G4 (ok := false) underlying86 underlying3 zeroValue87 (.t rfl) (.t rfl) (hS.get 0 rfl) (by rw [Rs]; exact hnw)) (Ah (.mE underlying87 (.t rfl)) rfl ?_))))
   rintro _ w32 ⟨r136, rfl, hN_, u_, e_, z_⟩
   replace hS := hS.add u_ (A' := zH r136) hN_ (fun i (e : i = r136) => by omega)
   refine LW.T (CW.block (Am (σ := Unit) (fun s w => (True) ∧ (Wx.Sep no w0 w [Cf Bw (D.map WE.kv), dL D, Al 3 1 Aq (.slice adw (Bq b.Lots b.Processes b.Swaps).length cpw) (Bq b.Lots b.Processes b.Swaps), Al 32 3 VP.cells v L, Db (Hv 3 L), Ck B18 (VP.cells ⟨⟨wf, 0, []⟩, none, 0⟩) 32, Al 3 1 Aq (.slice none 0 0) [], zH r136])) (fun s => []) ([(4, .eq _), (11, .eq _), (15, .eq _), (18, .eq _), (125, .eq _), (126, .eq _), (127, .eq _), (136, .eq _)]) (fun s => 0) () ?_ ⟨rfl, rfl, rfl, rfl, rfl, rfl, rfl, rfl, trivial⟩ ?_))
   ·exact ⟨trivial, hS⟩
   rintro _ w33 ⟨htr, hS⟩
   refine CW.S (Ah (.rA (.t rfl) (hS.get 7 rfl)) rfl ?_)
   rintro _ w34 ⟨rfl, e_⟩
   subst w34
   refine LW.pp (.fa (PEv.extract (.t rfl) rfl) (rfl)) (LW.S (CW.cond_false (.t rfl) (CW.exit (Aa (Aa (Ad (KW.then (CW.seq ?_))))))))
   obtain ⟨V, hVe⟩ : ∃ V : List (Int × Bool), V = [] := ⟨_, rfl⟩
   obtain ⟨v2, hv2⟩ : ∃ v2 : Go.Value, v2 = .slice none 0 0 := ⟨_, rfl⟩
   have hPV : V.Perm (lookW (D.map WE.pl) wf) := by rw [hVe, hlk]
   replace hS : Wx.Sep no w0 w33 [Cf Bw (D.map WE.kv), dL D, Al 3 1 Aq (.slice adw (Bq b.Lots b.Processes b.Swaps).length cpw) (Bq b.Lots b.Processes b.Swaps), Al 32 3 VP.cells v L, Db (Hv 3 L), Ck B18 #[vi wf, vi (Cn V).1, v2] 32, Al 3 1 Aq v2 (Cn V).2] := by rw [hVe, hv2]; exact hS.take 7
   have hLk : (lookW (D.map WE.pl) wf).length ≤ 1000000 := by rw [hlk]; exact Nat.zero_le _
   obtain ⟨ad2, cp2, hv2e, _⟩ := (hS.own 6 rfl).sl (fun _ => rfl)
   subst hv2e
   have hvd : (⟨wf, (Cn V).1, Cc (Cn V).2⟩ : Vd) = Px wf (lookW (Lt b.Swaps b.Gaps x b.Processes) wf) := by rw [← hDp]; unfold Px; rw [(Qa hPV).1, (Qa hPV).2]
   have hvl := Nx V
   have hpl2 := hPV.length_eq
   refine CW.region (LW.pp (.fA 2 underlying32 rfl sizeOf30 rfl) (LW.pp (.ld isAgg30 rfl ((hS.blk 5 rfl).Ai rfl)) (LW.K (eC (.o rfl) (sZ)) rfl (T1 _ (Cn V).2 _ (hS.own 6 rfl) oQ) ?_)))
   rintro _ w35 ⟨rfl, uw35⟩
   replace hS := hS.Dh 6 rfl uw35
   refine LW.T ?_
   obtain ⟨vp, hvpe⟩ : ∃ vp : VP, vp = ⟨⟨wf, (Cn V).1, Cc (Cn V).2⟩, ad2, cp2⟩ := ⟨_, rfl⟩
   have hB18v : Blk w35 B18 (VP.cells vp) 32 := by rw [hvpe, show VP.cells ⟨⟨wf, (Cn V).1, Cc (Cn V).2⟩, ad2, cp2⟩ = #[vi wf, vi (Cn V).1, .slice ad2 (Cn V).2.length cp2] by unfold VP.cells VP.uv; rw [Co]]; exact hS.blk 5 rfl
   refine CW.region (LW.M rfl (LW.pp (.la isAgg32 sizeOf32 rfl (hB18v.agg)) (Ah (.buildSlice (xs := [vp]) (enc := VP.cells) (mk := fun p => .agg p.cells) underlying27 sizeOf32 zeroValue32 rfl cQ (fun _ => rfl) (fun _ => rfl) (.cons (.t rfl) .nil) rfl) rfl ?_)))
   rintro _ w36 ⟨B174, cB174, rfl, NB174, yB174, xB174⟩
   replace hS := hS.up NB174.up
   have hE174 := xB174
   refine Ah (.A8 (enc := VP.cells) (bytes := 40) (i := Tryz.t32) underlying27 kQ rfl rfl rfl rfl cQ (fun _ => rfl) VP.one (.t rfl) (.t rfl) (hS.own 3 rfl) (Ak hE174) (by simp only [maxLen, List.length_cons, List.length_nil]; omega) (by simp only [List.length_cons, List.length_nil]; omega)) rfl ?_
   intro v175 w37 Gw37
   replace hS := hS.Dh 3 rfl Gw37
   refine LW.A rfl (LW.nil (KW.inBlock (KW.then (CW.region (LW.pp (.inc (.t rfl) oQ) (LW.M rfl (LW.nil (KW.round ?_))))))))
   exact ⟨(k + 1, v175, L ++ [vp]), ⟨by show k + 1 ≤ _; omega, by show (L ++ [vp]).map VP.vd = _; rw [List.map_append, hL, Ar hy, List.map_append, hvpe]; show _ ++ [(⟨wf, (Cn V).1, Cc (Cn V).2⟩ : Vd)] = _; rw [hvd]; rfl, by subst hvpe; rw [← Ji]; rw [← Co (Cn V).2] at hS; exact Gu (Bs := [_, _, _, _]) (hS.sub (.cons_cons _ (.cons_cons _ (.cons_cons _ (.cons_cons _ (.cons_cons _ (.cons _ (.cons_cons _ .slnil))))))))⟩, ⟨rfl, rfl, rfl, rfl, rfl, rfl, trivial⟩, by show (Bq b.Lots b.Processes b.Swaps).length - (k + 1) < (Bq b.Lots b.Processes b.Swaps).length - k; omega⟩
  | some e =>
   obtain ⟨je, hje, hew⟩ := Pm hq28
   have hlk := aU hq28
   have hjl := (List.getElem?_eq_some_iff.1 hje).1
   refine CW.region (LW.M rfl (LW.M rfl (LW.pp (.C1 (ok := false) underlying86 underlying3 (.t rfl) (.t rfl) (hS.get 0 rfl) (List.mem_map.2 ⟨e, List.mem_of_getElem? hje, by rw [← hew]; rfl⟩)) (Ah (.range underlying87 (.t rfl) (Nu (hS.get 1 rfl) hje)) rfl ?_))))
   rintro _ w38 ⟨r136, rfl, hR_, u_, e_, z_⟩
   replace hS := hS.Dh 1 rfl (dM (hS.get 1 rfl) hje (Gq hR_ u_ e_))
   refine LW.T (CW.block (Am (σ := List (Int × Bool) × Go.Value) (fun s w => ((s.1.map (·.1)).Nodup) ∧ (∀ q ∈ s.1, q ∈ e.L) ∧ (Wx.Sep no w0 w [Cf Bw (D.map WE.kv), Db ((D.map Vv).set je (Fq e.b r136 (gZ e.L) (s.1.map (·.1)))), Al 3 1 Aq (.slice adw (Bq b.Lots b.Processes b.Swaps).length cpw) (Bq b.Lots b.Processes b.Swaps), Al 32 3 VP.cells v L, Db (Hv 3 L), Ck B18 #[vi wf, vi (Cn s.1).1, s.2] 32, Al 3 1 Aq s.2 (Cn s.1).2])) (fun s => []) ([(4, .eq _), (11, .eq _), (15, .eq _), (18, .eq _), (125, .eq _), (126, .eq _), (127, .eq _), (136, .eq _)]) (fun s => e.L.length - s.1.length) ([], .slice none 0 0) ?_ ⟨rfl, rfl, rfl, rfl, rfl, rfl, rfl, rfl, trivial⟩ ?_))
   ·exact ⟨List.nodup_nil, (fun _ h => (by cases h)), hS⟩
   rintro ⟨V, v2⟩ w39 ⟨hV, hVs, hS⟩
   dsimp only at hV hVs hS
   change CW _ _ _ _ _ _ _ ([] ++ _) _
   refine CW.seq ?_
   have hRn : IRng w39 e.b r136 (gZ e.L) (V.map (·.1)) := (hS.get 1 rfl).1 _ (List.mem_of_getElem? (List.getElem?_set_self (by rw [List.length_map]; exact hjl)))
   refine CW.region (Ah (.next (.t rfl) hRn) rfl ?_)
   rintro _ w40 (⟨rfl, rfl, hPm⟩ | ⟨k0, u0, rfl, hNx⟩)
   ·skip
    refine LW.pp (.extract (.t rfl) rfl) (LW.S (CW.cond_false (.t rfl) (CW.exit (Aa (Aa (Ad (KW.then (CW.seq ?_))))))))
    have hPV : V.Perm (lookW (D.map WE.pl) wf) := by rw [hlk]; exact perm_keys hV (hDl e (List.mem_of_getElem? hje)) hVs (by rw [Nt] at hPm; exact hPm)
    replace hS := hS.Dh 1 rfl (T0 (hS.get 1 rfl) hjl (mJ ((hS.get 1 rfl).1 _ (List.mem_of_getElem? (List.getElem?_set_self (by rw [List.length_map]; exact hjl))))))
    rw [Nl (show (D.map Vv)[je]? = some (Cf e.b (gZ e.L)) by rw [List.getElem?_map, hje]; rfl)] at hS
    have hLk : (lookW (D.map WE.pl) wf).length ≤ 1000000 := by rw [hlk]; exact Nat.le_trans (hDk e (List.mem_of_getElem? hje)) oQ
    obtain ⟨ad2, cp2, hv2e, _⟩ := (hS.own 6 rfl).sl (fun _ => rfl)
    subst hv2e
    have hvd : (⟨wf, (Cn V).1, Cc (Cn V).2⟩ : Vd) = Px wf (lookW (Lt b.Swaps b.Gaps x b.Processes) wf) := by rw [← hDp]; unfold Px; rw [(Qa hPV).1, (Qa hPV).2]
    have hvl := Nx V
    have hpl2 := hPV.length_eq
    refine CW.region (LW.pp (.fA 2 underlying32 rfl sizeOf30 rfl) (LW.pp (.ld isAgg30 rfl ((hS.blk 5 rfl).Ai rfl)) (LW.K (eC (.o rfl) (sZ)) rfl (T1 _ (Cn V).2 _ (hS.own 6 rfl) oQ) ?_)))
    rintro _ w41 ⟨rfl, uw41⟩
    replace hS := hS.Dh 6 rfl uw41
    refine LW.T ?_
    obtain ⟨vp, hvpe⟩ : ∃ vp : VP, vp = ⟨⟨wf, (Cn V).1, Cc (Cn V).2⟩, ad2, cp2⟩ := ⟨_, rfl⟩
    have hB18v : Blk w41 B18 (VP.cells vp) 32 := by rw [hvpe, show VP.cells ⟨⟨wf, (Cn V).1, Cc (Cn V).2⟩, ad2, cp2⟩ = #[vi wf, vi (Cn V).1, .slice ad2 (Cn V).2.length cp2] by unfold VP.cells VP.uv; rw [Co]]; exact hS.blk 5 rfl
    refine CW.region (LW.M rfl (LW.pp (.la isAgg32 sizeOf32 rfl (hB18v.agg)) (Ah (.buildSlice (xs := [vp]) (enc := VP.cells) (mk := fun p => .agg p.cells) underlying27 sizeOf32 zeroValue32 rfl cQ (fun _ => rfl) (fun _ => rfl) (.cons (.t rfl) .nil) rfl) rfl ?_)))
    rintro _ w42 ⟨B174, cB174, rfl, NB174, yB174, xB174⟩
    replace hS := hS.up NB174.up
    have hE174 := xB174
    refine Ah (.A8 (enc := VP.cells) (bytes := 40) (i := Tryz.t32) underlying27 kQ rfl rfl rfl rfl cQ (fun _ => rfl) VP.one (.t rfl) (.t rfl) (hS.own 3 rfl) (Ak hE174) (by simp only [maxLen, List.length_cons, List.length_nil]; omega) (by simp only [List.length_cons, List.length_nil]; omega)) rfl ?_
    intro v175 w43 Gw43
    replace hS := hS.Dh 3 rfl Gw43
    refine LW.A rfl (LW.nil (KW.inBlock (KW.then (CW.region (LW.pp (.inc (.t rfl) oQ) (LW.M rfl (LW.nil (KW.round ?_))))))))
    exact ⟨(k + 1, v175, L ++ [vp]), ⟨by show k + 1 ≤ _; omega, by show (L ++ [vp]).map VP.vd = _; rw [List.map_append, hL, Ar hy, List.map_append, hvpe]; show _ ++ [(⟨wf, (Cn V).1, Cc (Cn V).2⟩ : Vd)] = _; rw [hvd]; rfl, by subst hvpe; rw [← Ji]; rw [← Co (Cn V).2] at hS; exact Gu (Bs := [_, _, _, _]) (hS.sub (.cons_cons _ (.cons_cons _ (.cons_cons _ (.cons_cons _ (.cons_cons _ (.cons _ (.cons_cons _ .slnil))))))))⟩, ⟨rfl, rfl, rfl, rfl, rfl, rfl, trivial⟩, by show (Bq b.Lots b.Processes b.Swaps).length - (k + 1) < (Bq b.Lots b.Processes b.Swaps).length - k; omega⟩
   skip
   have zw40 := hNx.size
   replace hS := hS.Dh 1 rfl (T0 (hS.get 1 rfl) hjl (H9 hNx))
   obtain ⟨⟨id, sr⟩, hqm, hqe⟩ := List.mem_map.1 hNx.mem
   cases hqe
   have hfr := hNx.fresh
   have hV2 : ((V ++ [(id, sr)]).map (·.1)).Nodup := by rw [List.map_append]; exact List.nodup_append.2 ⟨hV, by simp, fun a ha c hc => by simp at hc; subst hc; exact fun e => hfr (e ▸ ha)⟩
   have hVs2 : ∀ q ∈ V ++ [(id, sr)], q ∈ e.L := fun q hq => (List.mem_append.1 hq).elim (hVs q) fun h => by rw [List.mem_singleton.1 h]; exact hqm
   have hVl : V.length < e.L.length := (by have h5 := hV2.length_le_of_subset (l₂ := e.L.map (·.1)) (fun k hk => by obtain ⟨q, hq, rfl⟩ := List.mem_map.1 hk; exact List.mem_map.2 ⟨q, hVs2 q hq, rfl⟩); simp only [List.length_map, List.length_append, List.length_cons, List.length_nil] at h5; omega)
   have hvl := Nx V
   have hvt := mK V
   have hel := hDk e (List.mem_of_getElem? hje)
   refine LW.pp (.extract (.t rfl) rfl) (LW.S (CW.cond_true (.t rfl) (CW.skip (KW.then (CW.block (CW.S (Ah (.entry (.t rfl) hNx.entry) rfl ?_)))))))
   rintro _ _ ⟨rfl, rfl⟩
   refine LW.pp (.extract (.t rfl) rfl) (LW.pp (.extract (.t rfl) rfl) (LW.A rfl (LW.A rfl (LW.S (CW.block (CW.S (LW.M rfl (LW.M rfl (LW.g rfl rfl rfl rfl rfl rfl rfl (fun hc => PEv.fA 1 underlying32 rfl sizeOf3 rfl) (LW.g rfl rfl rfl rfl rfl rfl rfl (fun hc => PEv.load isAgg3 vQ ((hS.blk 5 rfl).Ai rfl)) (LW.g rfl rfl rfl rfl rfl rfl rfl (fun hc => PEv.lss vQ (.const _)) (LW.pp (.Ao (.t rfl) (fun hp => (by exact .cond rfl (by (rw [hp]; rfl))))) (LW.A rfl (LW.T (CW.cond (.t rfl) (fun h142 => ?_) (fun h142 => ?_))))))))))))))))
   ·replace h142 := dQ h142
    obtain ⟨hs1, ht1⟩ : sr = true ∧ (Cn V).1 ≠ 2 := by have h5 := h142; simp at h5; exact ⟨h5.1, by omega⟩
    subst hs1
    refine CW.region (LW.pp (.fA 1 underlying32 rfl sizeOf3 rfl) (LW.E (.store sizeOf3 (.t rfl) (.const _) rfl (hS.blk 5 rfl) (Nat.le_of_ble_eq_true rfl)) ?_))
    intro w44 Nw44
    replace hS := hS.Gf 5 rfl (show Set_ _ w44 _ (#[vi wf, vi 2, v2]) _ from Nw44)
    refine LW.pp (.fA 2 underlying32 rfl sizeOf30 rfl) (LW.E (.store sizeOf30 (.t rfl) (.const _) rfl (hS.blk 5 rfl) (Nat.le_of_ble_eq_true rfl)) ?_)
    intro w45 Nw45
    replace hS := hS.Gf 5 rfl (show Set_ _ w45 _ (#[vi wf, vi 2, .slice none 0 0]) _ from Nw45)
    refine LW.nil (KW.inBlock (KW.then ?_))
    replace hS := hS.step 6 rfl (Fr.refl _ _) (A' := Al 3 1 Aq (.slice none 0 0) []) (OwnS.nil _ _ _ _ _) (fun i h => by cases h)
    refine CW.region (LW.pp (.fA 2 underlying32 rfl sizeOf30 rfl) (LW.pp (.ld isAgg30 rfl ((hS.blk 5 rfl).Ai rfl)) (LW.M rfl (Ah (.buildSlice (xs := [id]) (enc := Aq) (mk := vi) underlying30 sizeOf3 zeroValue3 rfl cQ (fun _ => rfl) (fun _ => rfl) (.cons (.t rfl) .nil) rfl) rfl ?_))))
    rintro _ w46 ⟨B166, cB166, rfl, NB166, yB166, xB166⟩
    replace hS := hS.up NB166.up
    have hE166 := xB166
    refine Ah (.A8 (enc := Aq) (bytes := 8) (i := Tryz.t3) underlying30 kQ rfl rfl rfl rfl cQ (fun _ => rfl) Ev (.t rfl) (.t rfl) (hS.own 6 rfl) (Ak hE166) (by simp only [maxLen, List.length_cons, List.length_nil]; omega) (by simp only [List.length_cons, List.length_nil]; omega)) rfl ?_
    intro v167 w47 Gw47
    replace hS := hS.Dh 6 rfl Gw47
    refine LW.pp (.fA 2 underlying32 rfl sizeOf30 rfl) (LW.E (.store sizeOf30 (.t rfl) (.t rfl) ((hS.own 6 rfl).uU (fun _ => rfl)) (hS.blk 5 rfl) (Nat.le_of_ble_eq_true rfl)) ?_)
    intro w48 Nw48
    replace hS := hS.Gf 5 rfl Nw48
    refine LW.nil (KW.inBlock (KW.round ?_))
    exact ⟨(V ++ [(id, true)], v167), ⟨hV2, hVs2, by rw [List.map_append]; (rw [aL ht1]; exact hS)⟩, ⟨rfl, rfl, rfl, rfl, rfl, rfl, rfl, rfl, trivial⟩, by show e.L.length - (V ++ [_]).length < e.L.length - V.length; rw [List.length_append]; show e.L.length - (V.length + 1) < _; omega⟩
   replace h142 := dQ h142
   have hn142 := h142
   refine CW.S (LW.M rfl (LW.pp (.not (.t rfl)) (LW.M rfl (LW.g rfl rfl rfl rfl rfl rfl rfl (fun hc => PEv.fA 1 underlying32 rfl sizeOf3 rfl) (LW.g rfl rfl rfl rfl rfl rfl rfl (fun hc => PEv.load isAgg3 vQ ((hS.blk 5 rfl).Ai rfl)) (LW.g rfl rfl rfl rfl rfl rfl rfl (fun hc => PEv.eql vQ (.const _)) (LW.pp (.Ao (.t rfl) (fun hp => (by exact .cond rfl (by (rw [hp]; rfl))))) (LW.A rfl (LW.T (CW.cond (.t rfl) (fun h151 => ?_) (fun h151 => ?_)))))))))))
   ·replace h151 := dQ h151
    obtain ⟨hs1, ht1⟩ : sr = false ∧ (Cn V).1 = 2 := by have h5 := h151; simp at h5; exact h5
    subst hs1
    refine CW.exit (Sj cQ (Aa (Ad (KW.round ?_))))
    exact ⟨(V ++ [(id, false)], v2), ⟨hV2, hVs2, by rw [List.map_append]; (rw [aN ht1]; exact hS)⟩, ⟨rfl, rfl, rfl, rfl, rfl, rfl, rfl, rfl, trivial⟩, by show e.L.length - (V ++ [_]).length < e.L.length - V.length; rw [List.length_append]; show e.L.length - (V.length + 1) < _; omega⟩
   replace h151 := dQ h151
   have hn151 := h151
   refine CW.S (LW.M rfl (LW.pp (.not (.t rfl)) (LW.A rfl (LW.T (CW.cond (.t rfl) (fun h159 => ?_) (fun h159 => ?_))))))
   ·replace h159 := dQ h159
    obtain ⟨hs1, ht1⟩ : sr = false ∧ (Cn V).1 ≠ 2 := by have h5 := h159; have h6 := hn151; simp at h5 h6; exact ⟨h5, h6 h5⟩
    subst hs1
    refine CW.region (LW.pp (.fA 1 underlying32 rfl sizeOf3 rfl) (LW.E (.store sizeOf3 (.t rfl) (.const _) rfl (hS.blk 5 rfl) (Nat.le_of_ble_eq_true rfl)) ?_))
    intro w49 Nw49
    replace hS := hS.Gf 5 rfl (show Set_ _ w49 _ (#[vi wf, vi 1, v2]) _ from Nw49)
    refine LW.nil (KW.inBlock (KW.then (CW.region (LW.pp (.fA 2 underlying32 rfl sizeOf30 rfl) (LW.pp (.ld isAgg30 rfl ((hS.blk 5 rfl).Ai rfl)) (LW.M rfl (Ah (.buildSlice (xs := [id]) (enc := Aq) (mk := vi) underlying30 sizeOf3 zeroValue3 rfl cQ (fun _ => rfl) (fun _ => rfl) (.cons (.t rfl) .nil) rfl) rfl ?_)))))))
    rintro _ w50 ⟨B166, cB166, rfl, NB166, yB166, xB166⟩
    replace hS := hS.up NB166.up
    have hE166 := xB166
    refine Ah (.A8 (enc := Aq) (bytes := 8) (i := Tryz.t3) underlying30 kQ rfl rfl rfl rfl cQ (fun _ => rfl) Ev (.t rfl) (.t rfl) (hS.own 6 rfl) (Ak hE166) (by simp only [maxLen, List.length_cons, List.length_nil]; omega) (by simp only [List.length_cons, List.length_nil]; omega)) rfl ?_
    intro v167 w51 Gw51
    replace hS := hS.Dh 6 rfl Gw51
    refine LW.pp (.fA 2 underlying32 rfl sizeOf30 rfl) (LW.E (.store sizeOf30 (.t rfl) (.t rfl) ((hS.own 6 rfl).uU (fun _ => rfl)) (hS.blk 5 rfl) (Nat.le_of_ble_eq_true rfl)) ?_)
    intro w52 Nw52
    replace hS := hS.Gf 5 rfl Nw52
    refine LW.nil (KW.inBlock (KW.round ?_))
    exact ⟨(V ++ [(id, false)], v167), ⟨hV2, hVs2, by rw [List.map_append]; (rw [aO ht1]; exact hS)⟩, ⟨rfl, rfl, rfl, rfl, rfl, rfl, rfl, rfl, trivial⟩, by show e.L.length - (V ++ [_]).length < e.L.length - V.length; rw [List.length_append]; show e.L.length - (V.length + 1) < _; omega⟩
   replace h159 := dQ h159
   obtain ⟨hs1, ht1⟩ : sr = true ∧ (Cn V).1 = 2 := by have h5 := h159; have h6 := hn142; simp at h5 h6; exact ⟨h5, by have := h6 h5; omega⟩
   subst hs1
   refine CW.skip (KW.inBlock (KW.then (CW.region (LW.pp (.fA 2 underlying32 rfl sizeOf30 rfl) (LW.pp (.ld isAgg30 rfl ((hS.blk 5 rfl).Ai rfl)) (LW.M rfl (Ah (.buildSlice (xs := [id]) (enc := Aq) (mk := vi) underlying30 sizeOf3 zeroValue3 rfl cQ (fun _ => rfl) (fun _ => rfl) (.cons (.t rfl) .nil) rfl) rfl ?_)))))))
   rintro _ w53 ⟨B166, cB166, rfl, NB166, yB166, xB166⟩
   replace hS := hS.up NB166.up
   have hE166 := xB166
   refine Ah (.A8 (enc := Aq) (bytes := 8) (i := Tryz.t3) underlying30 kQ rfl rfl rfl rfl cQ (fun _ => rfl) Ev (.t rfl) (.t rfl) (hS.own 6 rfl) (Ak hE166) (by simp only [maxLen, List.length_cons, List.length_nil]; omega) (by simp only [List.length_cons, List.length_nil]; omega)) rfl ?_
   intro v167 w54 Gw54
   replace hS := hS.Dh 6 rfl Gw54
   refine LW.pp (.fA 2 underlying32 rfl sizeOf30 rfl) (LW.E (.store sizeOf30 (.t rfl) (.t rfl) ((hS.own 6 rfl).uU (fun _ => rfl)) (hS.blk 5 rfl) (Nat.le_of_ble_eq_true rfl)) ?_)
   intro w55 Nw55
   replace hS := hS.Gf 5 rfl Nw55
   refine LW.nil (KW.inBlock (KW.round ?_))
   exact ⟨(V ++ [(id, true)], v167), ⟨hV2, hVs2, by rw [List.map_append]; (rw [aM ht1]; rw [ht1] at hS; exact hS)⟩, ⟨rfl, rfl, rfl, rfl, rfl, rfl, rfl, rfl, trivial⟩, by show e.L.length - (V ++ [_]).length < e.L.length - V.length; rw [List.length_append]; show e.L.length - (V.length + 1) < _; omega⟩
 replace h128 := dQ h128
 refine CW.exit (Aa (Aa (Ad (KW.then (CW.S (LW.M rfl (LW.A rfl (LW.T (CW.ret (Ae rfl rfl ⟨_, rfl, ?_⟩))))))))))
 exact ⟨v, L, rfl, by rw [hL, show k = (Bq b.Lots b.Processes b.Swaps).length by omega, List.take_length]; unfold K1; rw [if_pos hex], hS.sub (.cons _ (.cons _ (.cons _ (.cons_cons _ (.cons_cons _ .slnil)))))⟩
end Go.Proofs.YtmimclgihlhaeaaGreat
end
section
namespace Go.Wx
theorem Oz {α : Type} {enc : α → Array Go.Value} {k : Nat} (hk : ∀ x, (enc x).size = k) : ∀ xs : List α, (xs.flatMap fun x => (enc x).toList).length = xs.length * k
 | [] => by simp
 | x :: xs => by rw [List.flatMap_cons, List.length_append, Oz hk xs, Array.length_toList, hk, List.length_cons, Nat.add_mul]; omega
theorem iA {α : Type} {enc : α → Array Go.Value} {k i : Nat} (hk : ∀ x, (enc x).size = k) {xs : List α} (hi : i ≤ xs.length) : (xs.flatMap fun x => (enc x).toList).take (i * k) = (xs.take i).flatMap fun x => (enc x).toList := by
 have hl : ((xs.take i).flatMap fun x => (enc x).toList).length = i * k := by rw [Oz hk, List.length_take, Nat.min_eq_left hi]
 rw [show (xs.flatMap fun x => (enc x).toList) = ((xs.take i).flatMap fun x => (enc x).toList) ++ ((xs.drop i).flatMap fun x => (enc x).toList) by rw [← List.flatMap_append, List.take_append_drop], ← hl, List.take_left']
 rfl
section
variable {P : Program} {n : Nat} {ds : List Deferred} {l : Env} {w : World} {d : Option Tmp} {ty : TypeId} {ps : String} {af : Array Edge} {g : Option (Nat × Bool)}
theorem S2 {α : Type} {enc : α → Array Go.Value} {T e : TypeId} {k i cp : Nat} {x : Operand} {z : Go.Value} {ad : Option Addr} {xs : List α} (hT : P.underlying T = some (.slice e)) (hz : ∀ w, (zeroValue e).run P w = .ok z w) (hzs : z.cells.size = k) (h1 : z.cells.all (·.oneCell') = true) (hk : ∀ x, (enc x).size = k)
   (hx : Val l x (.slice (if cp = i then ad else ad.map (·.add (i * k))) (xs.length - i) (cp - i))) (hi : i ≤ xs.length) (ho : OwnS w 0 e k enc (.slice ad xs.length cp) xs) :
   REv P n ds l w ⟨d, .call { callee := .builtin .clear, args := #[x], argTypes := #[T] }, ty, ps, af, g⟩ (fun _ w' => Stp (Al e k enc (.slice ad xs.length cp) xs) (Al e k enc (.slice ad i cp) (xs.take i)) w w') := fun a ha => by
 by_cases h0 : xs.length - i = 0
 · have hie : i = xs.length := by omega
   subst hie
   refine ⟨.tuple #[], w, ?_, Fr.refl _ _, (show OwnS w 0 e k enc (.slice ad xs.length cp) (xs.take xs.length) by rw [List.take_length]; exact ho), fun i h => .inl h⟩
   have hx' := ha.ev hx
   rw [h0] at hx'
   simp only [execOp, resolve, invoke, builtin, Builtin.clear_]
   split at hx' <;> (try cases ad) <;> simp [hx', run_underlying hT, Result.andThen]
 obtain ⟨hlen, ⟨he, hn⟩ | ⟨g', cap', cur, he, _, hg, hcap, hcm, hcs, htake⟩⟩ := ho
 · exact absurd hn oQ
 cases he
 rw [if_neg (show ¬ cp = i by omega)] at hx
 have hzc : (Builtin.zeroCells z.cells (xs.length - i)).size = (xs.length - i) * k := by rw [← hzs]; simp [Builtin.zeroCells]
 have hle : xs.length * k ≤ cur.size := by rw [hcs]; exact Nat.mul_le_mul_right k hcap
 have hsum : i * k + (xs.length - i) * k = xs.length * k := by rw [← Nat.add_mul]; congr 1; omega
 have hst := run_storeCells_at P g' (i * k) e (Builtin.zeroCells z.cells (xs.length - i)).toList 0 cur w hg (by rw [Array.length_toList, hzc]; omega) (fun u hu => by
   simp only [Builtin.zeroCells, Array.toList_map, List.mem_map] at hu
   obtain ⟨i, _, rfl⟩ := hu
   by_cases hk : z.cells.size = 0
   · have : z.cells = #[] := Array.eq_empty_of_size_eq_zero hk
     simp [this] at *
   have hlt : i % z.cells.size < z.cells.size := Nat.mod_lt _ oQ
   rw [getElem!_pos z.cells _ hlt]
   exact Array.all_eq_true_iff_forall_mem.1 h1 _ (Array.getElem_mem hlt))
 refine ⟨.tuple #[], w.setRow g' (cur.toList.take (i * k + 0) ++ (Builtin.zeroCells z.cells (xs.length - i)).toList ++ cur.toList.drop (i * k + 0 + (Builtin.zeroCells z.cells (xs.length - i)).toList.length)).toArray, ?_, ⟨rfl, rfl, rfl, by simp, fun i hi hne => setRow_other w g' i _ (fun e => hne (by rw [e]; rfl))⟩, ?_, fun i h => .inl h⟩
 · obtain ⟨m, hm⟩ : ∃ m, xs.length - i = m + 1 := ⟨xs.length - i - 1, by omega⟩
   rw [hm] at hst hx ⊢
   have ead : (⟨g', 0, none⟩ : Addr).add (i * k) = ⟨g', i * k, none⟩ := by
     unfold Addr.add
     by_cases h : i * k = 0 <;> simp [h]
   simp only [Option.map_some] at hx
   rw [ead] at hx
   simp [execOp, resolve, invoke, builtin, ha.ev hx, Builtin.clear_, run_underlying hT, Result.andThen, hz]
   rw [hst]
   simp
 show OwnS _ 0 e k enc (.slice (some ⟨g', 0, none⟩) i cp) (xs.take i)
 have hf := iA hk hi
 refine ⟨by rw [Oz hk, List.length_take, Nat.min_eq_left hi], .inr ⟨g', cp, _, by rw [List.length_take, Nat.min_eq_left hi], Nat.zero_le _, setRow_heap w g' cur _ e (0, 0) hg, by rw [List.length_take]; omega, hcm, ?_, ?_⟩⟩
 · simp only [List.size_toArray, List.length_append, List.length_take, List.length_drop, Array.length_toList, hzc]
   omega
 rw [List.length_take, Nat.min_eq_left hi, ← hf, ← htake]
 simp only [Nat.add_zero, List.append_assoc]
 rw [List.take_append_of_le_length (by rw [List.length_take, Array.length_toList]; omega), List.take_take, List.take_take]
 congr 1
 omega
end
section
variable {P : Program} {n : Nat} {ds : List Deferred} {l : Env} {w : World} {d : Option Tmp} {ty : TypeId} {ps : String} {af : Array Edge} {g : Option (Nat × Bool)}
theorem PEv.rE {T T' e : TypeId} {x : Operand} {ad : Option Addr} {m c : Nat} (hT : P.underlying T = some (.slice e)) (hx : Val l x (.slice ad m c)) : PEv P n ds l w ⟨d, .binOp .eql T x (.const (.slice none 0 0)) T', ty, ps, af, g⟩ (.bool ad.isNone) := fun a w' ha _ => by
 refine A9 ?_
 have e1 : a.eval (.const (.slice none 0 0)) = .slice none 0 0 := rfl
 rw [ha.ev hx, e1, Sem.run_bind]
 have : (eqGuard .eql T x (.const (.slice none 0 0)) (.slice ad m c) (.slice none 0 0)).run P w' = .ok () w' := by unfold eqGuard; rfl
 rw [this]
 exact Lib.run_eql_slice_nil w' T e ad m c 0 0 hT
end
def Hj {α : Type} (p : α → Bool) (l : List α) (j : Nat) : List α := (l.take j).filter fun x => !p x
theorem O0 {α : Type} (p : α → Bool) (l : List α) (j : Nat) : (Hj p l j).length ≤ j := Nat.le_trans (List.length_filter_le _ _) (by rw [List.length_take]; omega)
theorem Pn {α : Type} {p : α → Bool} {l : List α} {k : Nat} {x : α} (hx : l[k]? = some x) (hp : p x = true) (hn : ∀ y ∈ l.take k, p y = false) : Hj p l (k + 1) = l.take k := by
 unfold Hj
 rw [Ar hx, List.filter_append, List.filter_cons_of_neg (by rw [hp]; decide), List.filter_nil, List.append_nil]
 exact List.filter_eq_self.2 fun y hy => by rw [hn y hy]; rfl
theorem T2 {α : Type} {p : α → Bool} {l : List α} {k : Nat} {x : α} (hx : l[k]? = some x) (hp : p x = false) : Hj p l (k + 1) = Hj p l k ++ [x] := by
 unfold Hj
 rw [Ar hx, List.filter_append, List.filter_cons_of_pos (by rw [hp]; rfl), List.filter_nil]
theorem X5 {α : Type} {p : α → Bool} {l : List α} {k : Nat} {x : α} (hx : l[k]? = some x) (hp : p x = true) : Hj p l (k + 1) = Hj p l k := by
 unfold Hj
 rw [Ar hx, List.filter_append, List.filter_cons_of_neg (by rw [hp]; decide), List.filter_nil, List.append_nil]
theorem aW {α : Type} {p : α → Bool} {l : List α} (hn : ∀ y ∈ l, p y = false) : (l.filter fun x => !p x) = l := List.filter_eq_self.2 fun y hy => by rw [hn y hy]; rfl
structure DelX {α : Type} (p : α → Bool) (l M : List α) (j : Nat) : Prop where
 len : M.length = l.length
 kept : M.take (Hj p l j).length = Hj p l j
 rest : ∀ m, j ≤ m → M[m]? = l[m]?
theorem DelX.start {α : Type} {p : α → Bool} {l : List α} {k : Nat} {x : α} (hx : l[k]? = some x) (hp : p x = true) (hn : ∀ y ∈ l.take k, p y = false) : DelX p l l (k + 1) := by
 have hk : k < l.length := (List.getElem?_eq_some_iff.1 hx).1
 refine ⟨rfl, ?_, fun _ _ => rfl⟩
 rw [Pn hx hp hn, List.length_take, Nat.min_eq_left (by omega)]
theorem DelX.no {α : Type} {p : α → Bool} {l M : List α} {j : Nat} {x : α} (h : DelX p l M j) (hx : l[j]? = some x) (hp : p x = true) : DelX p l M (j + 1) :=
 ⟨h.len, by rw [X5 hx hp]; exact h.kept, fun m hm => h.rest m oQ⟩
theorem DelX.yes {α : Type} {p : α → Bool} {l M : List α} {j : Nat} {x : α} (h : DelX p l M j) (hx : l[j]? = some x) (hp : p x = false) : DelX p l (M.set (Hj p l j).length x) (j + 1) := by
 have hj : j < l.length := (List.getElem?_eq_some_iff.1 hx).1
 have hk := O0 p l j
 have hM := h.len
 refine ⟨by rw [List.length_set, hM], ?_, fun m hm => ?_⟩
 · rw [T2 hx hp, List.length_append, List.length_singleton, List.take_succ_eq_append_getElem (by rw [List.length_set]; omega), List.getElem_set_self, List.take_set_of_le (Nat.le_refl _), h.kept]
 rw [List.getElem?_set_ne (by omega)]
 exact h.rest m oQ
theorem iB {α : Type} {p : α → Bool} {l : List α} : Hj p l l.length = l.filter fun x => !p x := by unfold Hj; rw [List.take_length]
theorem OwnS.DL {α : Type} {enc : α → Array Go.Value} {b k m cp : Nat} {e : TypeId} {w : World} {ad : Option Addr} {xs : List α} (h : OwnS w b e k enc (.slice ad m cp) xs) : xs.length ≤ cp := by
 obtain ⟨_, ⟨he, hn⟩ | ⟨g', cap, cur, he, _, _, hcap, _⟩⟩ := h
 · cases he; omega
 cases he; exact hcap
def rF {α : Type} (p : α → Bool) (l : List α) (i : Int) : Prop := (∃ (k : Nat) (x : α), i = ((k : Nat) : Int) ∧ l[k]? = some x ∧ p x = true ∧ ∀ y ∈ l.take k, p y = false) ∨ (i = -1 ∧ ∀ y ∈ l, p y = false)
theorem Gv {α : Type} {p : α → Bool} {l : List α} {k : Nat} {x : α} (h : l[k]? = some x) (hk : ∀ y ∈ l.take k, p y = false) (hx : p x = false) : ∀ y ∈ l.take (k + 1), p y = false := fun y hy => by
 rw [List.take_add_one, h] at hy
 rcases List.mem_append.1 hy with hy | hy
 · exact hk y hy
 cases List.mem_singleton.1 hy; exact hx
def A3 (p : VP) : Bool := decide (p.vd.t = 1)
def Ga (L : List VP) : List Int := (L.filter A3).map (·.vd.w)
theorem aX {L : List VP} {k : Nat} {p : VP} (h : (L.filter A3)[k]? = some p) : ((L.filter A3).take (k + 1)).map (·.vd.w) = ((L.filter A3).take k).map (·.vd.w) ++ [p.vd.w] := by rw [Ar h, List.map_append]; rfl
theorem iC (L : List VP) : (L.filter fun x => !(!A3 x)) = L.filter A3 := by simp only [Bool.not_not]
theorem rG {xs : List Int} {n i : Int} (h : rF (fun x => decide (n = x)) xs i) : decide (0 ≤ i) = decide (n ∈ xs) := by
 rcases h with ⟨k, x, rfl, hx, hp, _⟩ | ⟨rfl, hn⟩
 · have := of_decide_eq_true hp
   subst this
   rw [decide_eq_true (List.mem_of_getElem? hx)]
   exact decide_eq_true oQ
 rw [decide_eq_false fun hm => absurd (hn n hm) (by simp)]
 rfl
end Go.Wx
namespace Go.Proofs.YtmimclgihlhaeaaGreat
open Go.Proofs.Tryz
open Go.Wx Go.RowKit
theorem aY (cf : Nat) (lb : Array Go.Value) (p : VP → Bool) (hen : ∀ args w, (callFunc cf args).run Tryz.prog w = .ok (.enter cf args) w) (ad : Option Addr) (cp : Nat) (l : List VP) (w : World) (hE0 : Els w ad 3 VP.cells l) (hl : l.length ≤ 100000) (hp : ∀ W, Up w W → ∀ x, Ret Tryz.prog cf (#[.agg (VP.cells x)] ++ lb) W fun r W' => r = .bool (p x) ∧ Up W W') : Ret Tryz.prog 157 #[.slice ad l.length cp, .func (.func cf) #[] lb] w fun r w' => ∃ i, r = vi i ∧ rF p l i ∧ Up w w' := by
 have hW := Up.refl w
 obtain ⟨w0, rfl⟩ : ∃ w0, w0 = w := ⟨_, rfl⟩
 refine cS (n := 19) (m := 9) func157 rfl rfl rfl (CW.S (LW.C (LW.S (CW.S (LW.M rfl (LW.pp (.Ci underlying27 (.t rfl)) (LW.pp (.move (.const _)) (LW.T (CW.block (Am (σ := Nat) (fun s w => (s ≤ l.length) ∧ (∀ y ∈ l.take s, p y = false) ∧ (Up w0 w)) (fun s => [(8, .eq (vi (s : Int)))]) ([(0, .eq _), (1, .eq _), (7, .eq _)]) (fun s => l.length - s) 0 ?_ ⟨rfl, rfl, rfl, rfl, trivial⟩ ?_))))))))))
 ·exact ⟨Nat.zero_le _, by simp, hW⟩
 rintro k w1 ⟨hk, hn, hW⟩
 refine CW.S (LW.pp (.lss (.t rfl) (.t rfl)) (LW.S (CW.cond (.t rfl) (fun h9 => ?_) (fun h9 => ?_))))
 ·replace h9 := dQ h9
  refine CW.skip (KW.then (CW.seq (CW.block (CW.S (LW.M rfl (LW.A rfl (LW.S ?_)))))))
  have hE := Els.up hE0 hW
  refine CW.region (LW.M rfl (LW.M rfl (LW.M rfl ?_)))
  obtain ⟨x, hx⟩ := Ac (xs := l) (i := k) oQ
  obtain ⟨Bx, ox, ax, hcx⟩ := hE _ x hx
  refine LW.pp (.Aj underlying27 sizeOf32 (.t rfl) (.t rfl) oQ ax) (LW.pp (.la isAgg32 sizeOf32 rfl (hcx)) (LW.K (Cq (.t rfl) (.cons (.t rfl) .nil) (hen)) rfl (hp _ hW x) ?_))
  rintro _ w2 ⟨rfl, uw2⟩
  replace hW := hW.up uw2
  replace hcx := hcx.up uw2
  refine LW.T (CW.cond (.t rfl) (fun h16 => ?_) (fun h16 => ?_))
  ·replace h16 := dQ h16
   refine CW.S (LW.M rfl (LW.A rfl (LW.T (CW.ret (An (Af (Af (An (Af (Ae rfl rfl ⟨_, rfl, ?_⟩))))))))))
   exact ⟨_, rfl, .inl ⟨k, x, rfl, hx, by simpa using h16, hn⟩, hW⟩
  replace h16 := dQ h16
  refine CW.skip (KW.inBlock (KW.then (CW.region (LW.pp (.inc (.t rfl) oQ) (LW.M rfl (LW.nil (KW.round ?_)))))))
  exact ⟨k + 1, ⟨by omega, Gv hx hn (by simpa using h16), hW⟩, ⟨rfl, rfl, rfl, rfl, trivial⟩, by omega⟩
 replace h9 := dQ h9
 refine CW.exit (Aa (Aa (Ad (KW.then (CW.S (LW.C (LW.T (CW.ret (Ae rfl rfl ⟨_, rfl, ?_⟩)))))))))
 exact ⟨-1, rfl, .inr ⟨rfl, by rw [show k = l.length by omega, List.take_length] at hn; exact hn⟩, hW⟩
theorem X6 (cf : Nat) (lb : Array Go.Value) (p : VP → Bool) (hen : ∀ args w, (callFunc cf args).run Tryz.prog w = .ok (.enter cf args) w) (ad : Option Addr) (cp : Nat) (l : List VP) (w : World) (ho : OwnS w 0 32 3 VP.cells (.slice ad l.length cp) l) (hl : l.length ≤ 100000) (hp : ∀ W, Fr (Al 32 3 VP.cells (.slice ad l.length cp) (l)).foot w W → ∀ x, Ret Tryz.prog cf (#[.agg (VP.cells x)] ++ lb) W fun r W' => r = .bool (p x) ∧ Up W W') : Ret Tryz.prog 99 #[.slice ad l.length cp, .func (.func cf) #[] lb] w fun r w' => Stp (Al 32 3 VP.cells (.slice ad l.length cp) (l)) (Al 32 3 VP.cells (r) (l.filter fun x => !p x)) w w' := by
 obtain ⟨w0, rfl⟩ : ∃ w0, w0 = w := ⟨_, rfl⟩
 have hS : Wx.Sep (Al 32 3 VP.cells (.slice ad l.length cp) (l)).foot w0 w0 [Al 32 3 VP.cells (.slice ad l.length cp) (l)] := Sep.cons ho (fun _ h => h) (Sep.start _ _) (by simp)
 refine cS (n := 42) (m := 9) func99 rfl rfl rfl (CW.S (LW.C (LW.S (CW.region (LW.M rfl (LW.M rfl (LW.K (eC (.u rfl rfl) (xY)) rfl (aY cf lb p hen ad cp l _ ((hS.own 0 rfl).els (fun _ => rfl)) hl (fun W u x => hp W (hS.fr.trans (u.fr _)) x)) ?_)))))))
 rintro _ w1 ⟨i, rfl, hi, uw1⟩
 replace hS := hS.up uw1
 refine LW.A rfl (LW.S (CW.S (LW.M rfl (LW.pp (.eql (.t rfl) (.const _)) (LW.T (CW.cond (.t rfl) (fun h12 => ?_) (fun h12 => ?_)))))))
 ·replace h12 := dQ h12
  have hn := (hi.resolve_left (fun ⟨k, x, e, _⟩ => by omega)).2
  refine CW.S (LW.M rfl (LW.A rfl (LW.T (CW.ret (Af (Ae rfl rfl ⟨_, rfl, ?_⟩))))))
  exact ⟨hS.fr, by rw [aW hn]; exact hS.get 0 rfl, fun _ h => .inl h⟩
 replace h12 := dQ h12
 refine CW.skip (KW.then (CW.seq (CW.seq ?_)))
 obtain ⟨k, x, rfl, hx, hpx, hn⟩ := hi.resolve_right (fun ⟨e, _⟩ => h12 e)
 have hkl := (List.getElem?_eq_some_iff.1 hx).1
 obtain ⟨g, rfl⟩ := (hS.own 0 rfl).vM oQ
 have hD0 := DelX.start hx hpx hn
 have hk0 : k = (Hj p l (k + 1)).length := by rw [Pn hx hpx hn, List.length_take]; omega
 refine CW.region (LW.M rfl (LW.pp (.inc (.t rfl) oQ) (LW.A rfl (LW.T (CW.block (Am (σ := Nat × Nat × List VP) (fun s w => (s.1 ≤ l.length) ∧ (s.2.1 = (Hj p l s.1).length) ∧ (DelX p l s.2.2 s.1) ∧ (Wx.Sep (Al 32 3 VP.cells (.slice (some ⟨g, 0, none⟩) l.length cp) l).foot w0 w [Al 32 3 VP.cells (.slice (some ⟨g, 0, none⟩) l.length cp) s.2.2])) (fun s => [(6, .eq (vi (s.1 : Int))), (5, .eq (vi (s.2.1 : Int)))]) ([(0, .eq _), (1, .eq _), (4, .eq _)]) (fun s => l.length - s.1) (k + 1, k, l) ?_ ⟨rfl, rfl, rfl, rfl, rfl, trivial⟩ ?_))))))
 ·exact ⟨by show k + 1 ≤ _; omega, hk0, hD0, hS⟩
 rintro ⟨j, i, M⟩ w2 ⟨hj, hi2, hD, hS⟩
 dsimp only at hj hi2 hD hS
 change CW _ _ _ _ _ _ _ ([(6, .eq (vi (j : Int))), (5, .eq (vi (i : Int)))] ++ _) _
 refine CW.seq (CW.S (LW.M rfl (LW.M rfl (LW.pp (.Ci underlying27 (.t rfl)) (LW.pp (.lss (.t rfl) (.t rfl)) (LW.T (CW.cond (.t rfl) (fun h19 => ?_) (fun h19 => ?_))))))))
 ·replace h19 := dQ h19
  refine CW.skip (KW.then (CW.seq (CW.block (CW.seq ?_))))
  have hjl : j < l.length := by omega
  obtain ⟨x, hx⟩ := Ac (xs := l) (i := j) hjl
  have hxM := (hD.rest j (Nat.le_refl _)).trans hx
  obtain ⟨Bx, ox, ax, hcx⟩ := ((hS.own 0 rfl).els (fun _ => rfl)) j x hxM
  cases ax
  refine CW.region (LW.M rfl (LW.M rfl (LW.pp (.Aj underlying27 sizeOf32 (.t rfl) (.t rfl) oQ rfl) (LW.pp (.la isAgg32 sizeOf32 rfl (hcx)) (Ah (.Az zeroValue32) rfl ?_)))))
  rintro _ w3 ⟨B7, rfl, MB7⟩
  refine LW.E (.Ay sizeOf32 rfl (.t rfl) (.t rfl) (VP.one _) MB7.blk rfl) ?_
  intro w4 LB7
  have NB7 := MB7.set LB7
  have eB7 := NB7.at_
  replace hS := hS.Cj NB7
  refine LW.S (CW.region (LW.M rfl (LW.pp (.la isAgg32 sizeOf32 rfl ((hS.blk 1 rfl).agg)) (LW.K (Cq (.t rfl) (.cons (.t rfl) .nil) (hen)) rfl (hp _ hS.fr x) ?_))))
  rintro _ w5 ⟨rfl, uw5⟩
  replace hS := hS.up uw5
  refine LW.pp (.not (.t rfl)) (LW.T (CW.cond (.t rfl) (fun h29 => ?_) (fun h29 => ?_)))
  ·replace h29 := dQ h29
   refine CW.seq ?_
   have hkj := O0 p l j
   have hMl := hD.len
   have hpn : p x = false := by simpa using h29
   have hky := T2 hx hpn
   refine CW.region (LW.M rfl (LW.M rfl (LW.pp (.la isAgg32 sizeOf32 rfl ((hS.blk 1 rfl).agg)) (LW.pp (.Aj underlying27 sizeOf32 (.t rfl) (.t rfl) oQ rfl) (LW.E (.Fp (enc := VP.cells) (k := 3) (z := x) (i := i) sizeOf32 (fun _ => rfl) VP.one (.t rfl) (.t rfl) (hS.own 0 rfl) oQ) ?_)))))
   intro w6 Gw6
   replace hS := hS.Dh 0 rfl Gw6
   refine LW.T (CW.region (LW.M rfl (LW.pp (.inc (.t rfl) oQ) (LW.A rfl (LW.nil (KW.inBlock (KW.then (CW.region (LW.M rfl (LW.pp (.inc (.t rfl) oQ) (LW.A rfl (LW.nil (KW.round ?_)))))))))))))
   exact ⟨(j + 1, i + 1, M.set i x), ⟨by show j + 1 ≤ _; omega, by show i + 1 = _; rw [hky, hi2]; simp, by show DelX p l (M.set i x) (j + 1); rw [hi2]; exact hD.yes hx hpn, hS.take 1⟩, ⟨rfl, rfl, rfl, rfl, rfl, trivial⟩, by show l.length - (j + 1) < l.length - j; omega⟩
  replace h29 := dQ h29
  refine CW.skip (KW.inBlock (KW.then (CW.region (LW.M rfl (LW.pp (.inc (.t rfl) oQ) (LW.A rfl (LW.nil (KW.round ?_))))))))
  exact ⟨(j + 1, i, M), ⟨by show j + 1 ≤ _; omega, by show i = _; rw [X5 hx (by simpa using h29)]; exact hi2, hD.no hx (by simpa using h29), hS.take 1⟩, ⟨rfl, rfl, rfl, rfl, rfl, trivial⟩, by show l.length - (j + 1) < l.length - j; omega⟩
 replace h19 := dQ h19
 refine CW.exit (Aa (Aa (Ad (KW.then (CW.seq ?_)))))
 have hjl : j = l.length := by omega
 have hkj := O0 p l j
 have hMl := hD.len
 have hcl := (hS.own 0 rfl).DL
 refine CW.region (LW.M rfl (LW.M rfl (LW.pp (.sliceFrom underlying27 sizeOf32 (.t rfl) (.t rfl) oQ) (sJ (S2 (enc := VP.cells) (k := 3) underlying27 zeroValue32 rfl (by simp [Value.cells, Value.oneCell']) (fun _ => rfl) (xs := M) (i := i) (by rw [hD.len]; exact .tmp rfl) oQ (by rw [hD.len]; exact hS.own 0 rfl)) rfl rfl rfl ?_))))
 intro v_ w7 Gw7
 rw [hD.len] at Gw7
 replace hS := hS.Dh 0 rfl Gw7
 refine LW.S (CW.region (LW.M rfl (LW.M rfl (LW.pp (.K9 underlying27 sizeOf32 (.t rfl) (.t rfl) oQ) (LW.A rfl (LW.T (CW.ret (Ae rfl rfl ⟨_, rfl, ?_⟩))))))))
 exact ⟨hS.fr, by rw [← iB, ← hjl, ← hD.kept, ← hi2]; exact hS.get 0 rfl, fun _ h => .inl h⟩
theorem aZ (ad : Option Addr) (cp : Nat) (l : List VP) (w : World) (hE0 : Els w ad 3 VP.cells l) (hl : l.length ≤ 100000) : Ret Tryz.prog 100 #[.slice ad l.length cp] w fun r w' => OwnS w' w.heap.size 32 3 VP.cells r l ∧ Up w w' := by
 obtain ⟨w0, rfl⟩ : ∃ w0, w0 = w := ⟨_, rfl⟩
 have hS := Sep.start no w0
 refine cS (n := 8) (m := 9) func100 rfl rfl rfl (CW.S (LW.C (LW.S (CW.S (LW.M rfl (LW.pp (.rE underlying27 (.t rfl)) (LW.T (CW.cond (.t rfl) (fun h4 => ?_) (fun h4 => ?_)))))))))
 ·have hnil : l = [] := by cases l with | nil => rfl | cons x r => (obtain ⟨B, o, e, _⟩ := hE0 0 x rfl; rw [e] at h4; cases h4)
  refine CW.S (LW.C (LW.T (CW.ret (Af (Ae rfl rfl ⟨_, rfl, ?_⟩)))))
  (subst hnil; exact ⟨OwnS.nil _ _ _ _ _, hS.Ce⟩)
 refine CW.skip (KW.then (CW.S (Ah (.buildSlice (xs := ([] : List VP)) (enc := VP.cells) (mk := fun f => .agg f.cells) underlying27 sizeOf32 zeroValue32 rfl cQ (fun _ => rfl) (fun _ => rfl) .nil rfl) rfl ?_)))
 intro v5 w1 hN5
 obtain ⟨uw1, B5, rfl, hO5⟩ := Za hN5 (Nat.le_refl _)
 replace hS := hS.add uw1 (A' := Al 32 3 VP.cells (.slice (some ⟨B5, 0, none⟩) 0 0) ([] : List VP)) (hO5.mono (Nat.zero_le _)) (fun i h => hO5.base i h)
 refine LW.M rfl (Ah (.A8 (enc := VP.cells) (bytes := 40) (i := Tryz.t32) underlying27 kQ rfl rfl rfl rfl cQ (fun _ => rfl) VP.one (.t rfl) (.t rfl) (hS.own 0 rfl) (Ak (Els.up hE0 hS.Ce)) (by simp [maxLen]; omega) (by simp; omega)) rfl ?_)
 intro v7 w2 Gw2
 replace hS := hS.Dh 0 rfl Gw2
 refine LW.A rfl (LW.T (CW.ret (Ae rfl rfl ⟨_, rfl, ?_⟩)))
 exact ⟨(hS.own 0 rfl).Vb (fun i h => (hS.foot 0 rfl i h).resolve_left (fun h => h)), hS.Ce⟩
theorem iD (p : VP) (w : World) : Ret Tryz.prog 101 #[.agg p.cells] w fun r w' => r = .bool (!A3 p) ∧ Up w w' := by
 obtain ⟨w0, rfl⟩ : ∃ w0, w0 = w := ⟨_, rfl⟩
 have hS := Sep.start no w0
 refine cS (n := 6) (m := 9) func101 rfl rfl rfl (CW.S (Ah (.C7 (.t rfl)) rfl ?_))
 rintro _ w1 ⟨B1, rfl, NB1⟩
 replace hS := hS.Cj NB1
 refine LW.C (LW.S (CW.region (LW.pp (.fA 1 underlying32 rfl sizeOf3 rfl) (LW.pp (.ld isAgg3 rfl ((hS.blk 0 rfl).Ai rfl)) (LW.pp (.neq (.t rfl) (.const _)) (LW.A rfl (LW.T (CW.ret (Ae rfl rfl ⟨_, rfl, ?_⟩)))))))))
 exact ⟨rfl, hS.Ce⟩
theorem T3 (ad : Option Addr) (cp : Nat) (L : List VP) (w : World) (hE0 : Els w ad 3 VP.cells L) (hl : L.length ≤ 100000) : Ret Tryz.prog 45 #[.slice ad L.length cp] w fun r w' => OwnS w' w.heap.size 32 3 VP.cells r (L.filter A3) ∧ Up w w' := by
 obtain ⟨w0, rfl⟩ : ∃ w0, w0 = w := ⟨_, rfl⟩
 have hS := Sep.start no w0
 refine cS (n := 6) (m := 9) func45 rfl rfl rfl (CW.S (LW.C (LW.S (CW.region (LW.M rfl (LW.K (eC (.o rfl) (wM)) rfl (aZ ad cp L _ (Els.up hE0 hS.Ce) hl) ?_))))))
 rintro v4 w1 ⟨hO4, uw1⟩
 replace hS := hS.add uw1 (A' := Al 32 3 VP.cells v4 L) (hO4.mono (Nat.zero_le _)) (fun i h => hO4.base i h)
 obtain ⟨ad4, cp4, rfl, _⟩ := (hS.own 0 rfl).sl (fun _ => rfl)
 refine LW.K (eC (.cons (.t rfl) (.cons (.func _) .nil)) (CQ)) rfl (X6 101 #[] (fun p => !A3 p) wN ad4 cp4 L _ (hS.own 0 rfl) hl (fun W f x => iD x W)) ?_
 rintro v5 w2 uw2
 replace hS := hS.Dh 0 rfl uw2
 refine LW.A rfl (LW.T (CW.ret (Ae rfl rfl ⟨_, rfl, ?_⟩)))
 rw [iC] at hS
 exact ⟨(hS.own 0 rfl).Vb (fun i hi => (hS.foot 0 rfl i hi).resolve_left fun h => h), hS.Ce⟩
theorem X7 (ad : Option Addr) (cp : Nat) (L : List VP) (w : World) (hE0 : Els w ad 3 VP.cells L) (hl : L.length ≤ 100000) : Ret Tryz.prog 22 #[.slice ad L.length cp] w fun r w' => OwnS w' w.heap.size 3 1 Aq r (Ga L) ∧ Up w w' := by
 obtain ⟨w0, rfl⟩ : ∃ w0, w0 = w := ⟨_, rfl⟩
 have hS := Sep.start no w0
 refine cS (n := 20) (m := 9) func22 rfl rfl rfl (CW.S (LW.C (LW.S (CW.region (LW.C (LW.S (CW.S (LW.M rfl (LW.K (eC (.o rfl) (wD)) rfl (T3 ad cp L _ (Els.up hE0 hS.Ce) hl) ?_)))))))))
 rintro v7 w1 ⟨hO7, uw1⟩
 replace hS := hS.add uw1 (A' := Al 32 3 VP.cells v7 (L.filter A3)) (hO7.mono (Nat.zero_le _)) (fun i h => hO7.base i h)
 obtain ⟨ad7, cp7, rfl, _⟩ := (hS.own 0 rfl).sl (fun _ => rfl)
 have hfl := List.length_filter_le A3 L
 replace hS := hS.J9 (OwnS.nil _ 0 3 1 Aq)
 refine LW.pp (.Ci underlying27 (.t rfl)) (LW.pp (.move (.const _)) (LW.T (CW.block (Am (σ := Nat × Go.Value) (fun s w => (s.1 ≤ (L.filter A3).length) ∧ (Wx.Sep no w0 w [Al 32 3 VP.cells (.slice ad7 (L.filter A3).length cp7) (L.filter A3), Al 3 1 Aq s.2 (((L.filter A3).take s.1).map (·.vd.w))])) (fun s => [(9, .eq (vi (s.1 : Int))), (3, .eq (s.2))]) ([(2, .eq _), (7, .eq _), (8, .eq _)]) (fun s => (L.filter A3).length - s.1) (0, .slice none 0 0) ?_ ⟨rfl, rfl, rfl, rfl, rfl, trivial⟩ ?_))))
 ·exact ⟨Nat.zero_le _, hS⟩
 rintro ⟨k, v⟩ w2 ⟨hk, hS⟩
 change CW _ _ _ _ _ _ _ ([(9, .eq (vi (k : Int))), (3, .eq (v))] ++ _) _
 refine CW.S (LW.pp (.lss (.t rfl) (.t rfl)) (LW.S (CW.cond (.t rfl) (fun h10 => ?_) (fun h10 => ?_))))
 ·replace h10 := dQ h10
  refine CW.skip (KW.then (CW.seq (CW.block (CW.seq ?_))))
  obtain ⟨p, hp⟩ := Ac (xs := (L.filter A3)) (i := k) oQ
  obtain ⟨By, oy, ay, hcy⟩ := (Ed (hS.own 0 rfl) (fun _ => rfl)) k p hp
  refine CW.region (LW.pp (.Aj underlying27 sizeOf32 (j := k) (.t rfl) (.t rfl) oQ ay) (LW.pp (.la isAgg32 sizeOf32 rfl (hcy)) (Ah (.Az zeroValue32) rfl ?_)))
  rintro _ w3 ⟨B5, rfl, MB5⟩
  refine LW.E (.Ay sizeOf32 rfl (.t rfl) (.t rfl) (VP.one _) MB5.blk rfl) ?_
  intro w4 LB5
  have NB5 := MB5.set LB5
  replace hS := hS.Cj NB5
  refine LW.T (CW.region (LW.M rfl (LW.pp (.fA 0 underlying32 rfl sizeOf3 rfl) (LW.pp (.ld isAgg3 rfl ((Blk.Ai (v := vi p.vd.w) (hS.blk 2 rfl) rfl))) (Ah (.buildSlice (xs := [p.vd.w]) (enc := Aq) (mk := vi) underlying30 sizeOf3 zeroValue3 rfl cQ (fun _ => rfl) (fun _ => rfl) (.cons (.t rfl) .nil) rfl) rfl ?_)))))
  rintro _ w5 ⟨B16, cB16, rfl, NB16, yB16, xB16⟩
  replace hS := hS.up NB16.up
  have hE16 := xB16
  refine Ah (.A8 (enc := Aq) (bytes := 8) (i := Tryz.t3) underlying30 kQ rfl rfl rfl rfl cQ (fun _ => rfl) Ev (.t rfl) (.t rfl) (hS.own 1 rfl) (Ak hE16) (by simp only [maxLen, List.length_cons, List.length_nil, List.length_map, List.length_take]; omega) (by simp only [List.length_cons, List.length_nil, List.length_map, List.length_take]; omega)) rfl ?_
  intro v17 w6 Gw6
  replace hS := hS.Dh 1 rfl Gw6
  refine LW.A rfl (LW.nil (KW.inBlock (KW.then (CW.region (LW.pp (.inc (.t rfl) oQ) (LW.M rfl (LW.nil (KW.round ?_))))))))
  exact ⟨(k + 1, v17), ⟨by show k + 1 ≤ _; omega, by rw [aX hp]; exact hS.take 2⟩, ⟨rfl, rfl, rfl, rfl, rfl, trivial⟩, by show (L.filter A3).length - (k + 1) < (L.filter A3).length - k; omega⟩
 replace h10 := dQ h10
 refine CW.exit (Aa (Aa (Ad (KW.then (CW.S (LW.M rfl (LW.A rfl (LW.T (CW.ret (Ae rfl rfl ⟨_, rfl, ?_⟩))))))))))
 rw [show k = (L.filter A3).length by omega, List.take_length] at hS
 exact ⟨(hS.own 1 rfl).Vb (fun i hi => (hS.foot 1 rfl i hi).resolve_left fun h => h), hS.Ce⟩
theorem bA (ad : Option Addr) (cp : Nat) (l : List Int) (n : Int) (w : World) (hE0 : Els w ad 1 Aq l) (hl : l.length ≤ 100000) : Ret Tryz.prog 102 #[.slice ad l.length cp, vi n] w fun r w' => ∃ i, r = vi i ∧ rF (fun x => decide (n = x)) l i ∧ Up w w' := by
 have hW := Up.refl w
 obtain ⟨w0, rfl⟩ : ∃ w0, w0 = w := ⟨_, rfl⟩
 refine cS (n := 19) (m := 9) func102 rfl rfl rfl (CW.S (LW.C (LW.S (CW.S (LW.M rfl (LW.pp (.Ci underlying30 (.t rfl)) (LW.pp (.move (.const _)) (LW.T (CW.block (Am (σ := Nat) (fun s w => (s ≤ l.length) ∧ (∀ y ∈ l.take s, decide (n = y) = false) ∧ (Up w0 w)) (fun s => [(8, .eq (vi (s : Int)))]) ([(0, .eq _), (1, .eq _), (7, .eq _)]) (fun s => l.length - s) 0 ?_ ⟨rfl, rfl, rfl, rfl, trivial⟩ ?_))))))))))
 ·exact ⟨Nat.zero_le _, by simp, hW⟩
 rintro k w1 ⟨hk, hn, hW⟩
 refine CW.S (LW.pp (.lss (.t rfl) (.t rfl)) (LW.S (CW.cond (.t rfl) (fun h9 => ?_) (fun h9 => ?_))))
 ·replace h9 := dQ h9
  refine CW.skip (KW.then (CW.seq (CW.block (CW.S (LW.M rfl (LW.A rfl (LW.S ?_)))))))
  have hE := Els.up hE0 hW
  refine CW.region (LW.M rfl (LW.M rfl (LW.M rfl ?_)))
  obtain ⟨x, hx⟩ := Ac (xs := l) (i := k) oQ
  obtain ⟨Bx, ox, ax, hcx⟩ := hE _ x hx
  refine LW.pp (.Aj underlying30 sizeOf3 (.t rfl) (.t rfl) oQ ax) (LW.pp (.ld isAgg3 rfl (hcx.nth (j := 0) rfl)) (LW.pp (.eql (.t rfl) (.t rfl)) (LW.T (CW.cond (.t rfl) (fun h16 => ?_) (fun h16 => ?_)))))
  ·replace h16 := dQ h16
   have hx16 := h16
   refine CW.S (LW.M rfl (LW.A rfl (LW.T (CW.ret (An (Af (Af (An (Af (Ae rfl rfl ⟨_, rfl, ?_⟩))))))))))
   exact ⟨_, rfl, .inl ⟨k, x, rfl, hx, by simpa using hx16, hn⟩, hW⟩
  replace h16 := dQ h16
  have hx16 := h16
  refine CW.skip (KW.inBlock (KW.then (CW.region (LW.pp (.inc (.t rfl) oQ) (LW.M rfl (LW.nil (KW.round ?_)))))))
  exact ⟨k + 1, ⟨by omega, Gv (p := fun y => decide (n = y)) hx hn (by simpa using hx16), hW⟩, ⟨rfl, rfl, rfl, rfl, trivial⟩, by omega⟩
 replace h9 := dQ h9
 refine CW.exit (Aa (Aa (Ad (KW.then (CW.S (LW.C (LW.T (CW.ret (Ae rfl rfl ⟨_, rfl, ?_⟩)))))))))
 exact ⟨-1, rfl, .inr ⟨rfl, by rw [show k = l.length by omega, List.take_length] at hn; exact hn⟩, hW⟩
theorem S3 (ad : Option Addr) (cp : Nat) (l : List Int) (n : Int) (w : World) (hE0 : Els w ad 1 Aq l) (hl : l.length ≤ 100000) : Ret Tryz.prog 46 #[.slice ad l.length cp, vi n] w fun r w' => r = .bool (decide (n ∈ l)) ∧ Up w w' := by
 have hW := Up.refl w
 obtain ⟨w0, rfl⟩ : ∃ w0, w0 = w := ⟨_, rfl⟩
 refine cS (n := 9) (m := 9) func46 rfl rfl rfl (CW.S (LW.C (LW.S (CW.region (LW.M rfl (LW.M rfl (LW.K (eC (.u rfl rfl) (wO)) rfl (bA ad cp l n _ (Els.up hE0 hW) hl) ?_)))))))
 rintro _ w1 ⟨i, rfl, hi, uw1⟩
 replace hW := hW.up uw1
 refine LW.pp (.geq (.t rfl) (.const _)) (LW.A rfl (LW.T (CW.ret (Ae rfl rfl ⟨_, rfl, ?_⟩))))
 exact ⟨by rw [← rG hi], hW⟩
end Go.Proofs.YtmimclgihlhaeaaGreat
end
section
namespace Go.Wx
def Eb (b : Base) (v : Vd) : Int := match v.why.find? (fun id => (Jf b id).isSome) with
 | none => 0
 | some id => (D6 b.Lots v.w ((Jf b id).getD Fx).Time).1
theorem dS {b : Base} {v : Vd} (h : ∀ id ∈ v.why, (Jf b id).isSome = false) : Eb b v = 0 := by
 unfold Eb
 rw [List.find?_eq_none.2 fun id hid => by rw [h id hid]; exact Bool.false_ne_true]
theorem Rw {α : Type} {p : α → Bool} {l : List α} {k : Nat} {x : α} (hx : l[k]? = some x) (hp : p x = true) (hn : ∀ y ∈ l.take k, p y = false) : l.find? p = some x := by
 have hlt := (List.getElem?_eq_some_iff.1 hx).1
 have e : l = l.take k ++ x :: l.drop (k + 1) := by
   have h1 : l.drop k = x :: l.drop (k + 1) := by
     rw [List.drop_eq_getElem_cons hlt, (List.getElem?_eq_some_iff.1 hx).2]
   rw [← h1, List.take_append_drop]
 rw [e, List.find?_append, List.find?_eq_none.2 (fun y hy => by rw [hn y hy]; exact Bool.false_ne_true), List.find?_cons, hp]
 rfl
theorem X8 {b : Base} {v : Vd} {k j : Nat} {id : Int} {p : Fact} (hk : v.why[k]? = some id) (hn : ∀ y ∈ v.why.take k, (Jf b y).isSome = false) (hj : b.Processes[j]? = some p) (hp : decide (p.ID = id) = true) (hpn : ∀ y ∈ b.Processes.take j, decide (y.ID = id) = false) : Eb b v = (D6 b.Lots v.w p.Time).1 := by
 have e : Jf b id = some p := Rw (p := fun f : Fact => decide (f.ID = id)) hj hp hpn
 unfold Eb
 rw [Rw (p := fun id => (Jf b id).isSome) hk (by rw [e]; rfl) hn]
 show (D6 b.Lots v.w ((Jf b id).getD Fx).Time).1 = _
 rw [e]; rfl
theorem dU {b : Base} {id : Int} (h : ∀ y ∈ b.Processes, decide (y.ID = id) = false) : (Jf b id).isSome = false := by
 unfold Jf
 rw [List.find?_eq_none.2 fun y hy => by rw [h y hy]; exact Bool.false_ne_true]
 rfl
theorem T4 {w : World} {p : VP} (h : Sl w p.uv 1 Aq p.vd.why) : Els w p.ad 1 Aq p.vd.why := by
 obtain ⟨ad, c, e, hE⟩ := h
 unfold VP.uv at e
 injection e with e1 e2 e3
 rw [e1]
 exact hE
end Go.Wx
namespace Go.Proofs.YtmimclgihlhaeaaGreat
open Go.Proofs.Tryz
open Go.Wx Go.RowKit
theorem bB (cf : Nat) (lb : Array Go.Value) (p : Fact → Bool) (hen : ∀ args w, (callFunc cf args).run Tryz.prog w = .ok (.enter cf args) w) (ad : Option Addr) (cp : Nat) (l : List Fact) (w : World) (hE0 : Els w ad 19 Fact.cells l) (hl : l.length ≤ 100000) (hp : ∀ W, Up w W → ∀ x, Ret Tryz.prog cf (#[.agg (Fact.cells x)] ++ lb) W fun r W' => r = .bool (p x) ∧ Up W W') : Ret Tryz.prog 103 #[.slice ad l.length cp, .func (.func cf) #[] lb] w fun r w' => ∃ i, r = vi i ∧ rF p l i ∧ Up w w' := by
 have hW := Up.refl w
 obtain ⟨w0, rfl⟩ : ∃ w0, w0 = w := ⟨_, rfl⟩
 refine cS (n := 19) (m := 9) func103 rfl rfl rfl (CW.S (LW.C (LW.S (CW.S (LW.M rfl (LW.pp (.Ci underlying23 (.t rfl)) (LW.pp (.move (.const _)) (LW.T (CW.block (Am (σ := Nat) (fun s w => (s ≤ l.length) ∧ (∀ y ∈ l.take s, p y = false) ∧ (Up w0 w)) (fun s => [(8, .eq (vi (s : Int)))]) ([(0, .eq _), (1, .eq _), (7, .eq _)]) (fun s => l.length - s) 0 ?_ ⟨rfl, rfl, rfl, rfl, trivial⟩ ?_))))))))))
 ·exact ⟨Nat.zero_le _, by simp, hW⟩
 rintro k w1 ⟨hk, hn, hW⟩
 refine CW.S (LW.pp (.lss (.t rfl) (.t rfl)) (LW.S (CW.cond (.t rfl) (fun h9 => ?_) (fun h9 => ?_))))
 ·replace h9 := dQ h9
  refine CW.skip (KW.then (CW.seq (CW.block (CW.S (LW.M rfl (LW.A rfl (LW.S ?_)))))))
  have hE := Els.up hE0 hW
  refine CW.region (LW.M rfl (LW.M rfl (LW.M rfl ?_)))
  obtain ⟨x, hx⟩ := Ac (xs := l) (i := k) oQ
  obtain ⟨Bx, ox, ax, hcx⟩ := hE _ x hx
  refine LW.pp (.Aj underlying23 sizeOf36 (.t rfl) (.t rfl) oQ ax) (LW.pp (.la isAgg36 sizeOf36 rfl (hcx)) (LW.K (Cq (.t rfl) (.cons (.t rfl) .nil) (hen)) rfl (hp _ hW x) ?_))
  rintro _ w2 ⟨rfl, uw2⟩
  replace hW := hW.up uw2
  replace hcx := hcx.up uw2
  refine LW.T (CW.cond (.t rfl) (fun h16 => ?_) (fun h16 => ?_))
  ·replace h16 := dQ h16
   refine CW.S (LW.M rfl (LW.A rfl (LW.T (CW.ret (An (Af (Af (An (Af (Ae rfl rfl ⟨_, rfl, ?_⟩))))))))))
   exact ⟨_, rfl, .inl ⟨k, x, rfl, hx, by simpa using h16, hn⟩, hW⟩
  replace h16 := dQ h16
  refine CW.skip (KW.inBlock (KW.then (CW.region (LW.pp (.inc (.t rfl) oQ) (LW.M rfl (LW.nil (KW.round ?_)))))))
  exact ⟨k + 1, ⟨by omega, Gv hx hn (by simpa using h16), hW⟩, ⟨rfl, rfl, rfl, rfl, trivial⟩, by omega⟩
 replace h9 := dQ h9
 refine CW.exit (Aa (Aa (Ad (KW.then (CW.S (LW.C (LW.T (CW.ret (Ae rfl rfl ⟨_, rfl, ?_⟩)))))))))
 exact ⟨-1, rfl, .inr ⟨rfl, by rw [show k = l.length by omega, List.take_length] at hn; exact hn⟩, hW⟩
theorem bC (f : Fact) (id : Int) (B : Nat) (w : World) (hB : Blk w B #[vi id] 3) : Ret Tryz.prog 104 #[.agg f.cells, .pointer (some ⟨B, 0, none⟩)] w fun r w' => r = .bool (decide (f.ID = id)) ∧ Up w w' := by
 obtain ⟨w0, rfl⟩ : ∃ w0, w0 = w := ⟨_, rfl⟩
 have hS := Sep.start no w0
 refine cS (n := 8) (m := 9) func104 rfl rfl rfl (CW.S (Ah (.C7 (.t rfl)) rfl ?_))
 rintro _ w1 ⟨B2, rfl, NB2⟩
 replace hS := hS.Cj NB2
 refine LW.C (LW.S (CW.region (LW.pp (.fA 1 underlying36 rfl sizeOf3 rfl) (LW.pp (.ld isAgg3 rfl ((hS.blk 0 rfl).Ai rfl)) (LW.pp (.ld isAgg3 rfl ((hB.up hS.Ce).Ai rfl)) (LW.pp (.eql (.t rfl) (.t rfl)) (LW.A rfl (LW.T (CW.ret (Ae rfl rfl ⟨_, rfl, ?_⟩))))))))))
 exact ⟨rfl, hS.Ce⟩
theorem bD (bc : Array Go.Value) (b : Base) (p : VP) (w : World) (hC : BaseC w bc b) (hw : Sl w p.uv 1 Aq p.vd.why) (hlw : p.vd.why.length ≤ 100000) (hlP : b.Processes.length ≤ 100000) (hlL : b.Lots.length ≤ 1000000000) : Ret Tryz.prog 47 #[.agg bc, .agg p.cells] w fun r w' => r = vi (Eb b p.vd) ∧ Up w w' := by
 obtain ⟨w0, rfl⟩ : ∃ w0, w0 = w := ⟨_, rfl⟩
 have hS := Sep.start no w0
 refine cS (n := 38) (m := 9) func47 rfl rfl rfl (CW.S (Ah (.C7 (.t rfl)) rfl ?_))
 rintro _ w1 ⟨B2, rfl, NB2⟩
 replace hS := hS.Cj NB2
 refine Ah (.C7 (.t rfl)) rfl ?_
 rintro _ w2 ⟨B3, rfl, NB3⟩
 replace hS := hS.Cj NB3
 refine LW.C (LW.S (CW.seq ?_))
 obtain ⟨v00, h00, hs00⟩ := hC.at_ (j := 0) cQ
 obtain ⟨adP, cpP, rfl, hEP⟩ := (show Sl w0 v00 19 Fact.cells b.Processes from hs00)
 have hEw : Els w0 p.ad 1 Aq p.vd.why := T4 hw
 refine CW.region (LW.pp (.fA 2 underlying32 rfl sizeOf30 rfl) (LW.pp (.ld isAgg30 rfl (Blk.Ai (v := p.uv) (hS.blk 1 rfl) rfl)) (LW.pp (.Ci underlying30 (.t rfl)) (LW.pp (.move (.const _)) (LW.T (CW.block (Am (σ := Nat) (fun s w => (s ≤ p.vd.why.length) ∧ (∀ y ∈ p.vd.why.take s, (Jf b y).isSome = false) ∧ (Wx.Sep no w0 w [Ck B2 bc 38, Ck B3 p.cells 32])) (fun s => [(13, .eq (vi (s : Int)))]) ([(2, .eq _), (3, .eq _), (11, .eq _), (12, .eq _)]) (fun s => p.vd.why.length - s) 0 ?_ ⟨rfl, rfl, rfl, rfl, rfl, trivial⟩ ?_)))))))
 ·exact ⟨Nat.zero_le _, by simp, hS⟩
 rintro k w3 ⟨hk, hn, hS⟩
 refine CW.S (LW.pp (.lss (.t rfl) (.t rfl)) (LW.S (CW.cond (.t rfl) (fun h14 => ?_) (fun h14 => ?_))))
 ·replace h14 := dQ h14
  refine CW.skip (KW.then (CW.seq (CW.block (CW.seq ?_))))
  obtain ⟨id, hid⟩ := Ac (xs := p.vd.why) (i := k) oQ
  obtain ⟨Bz, oz, az, hcz⟩ := (Els.up hEw hS.Ce) k id hid
  refine CW.region (LW.pp (.Aj underlying30 sizeOf3 (j := k) (.t rfl) (.t rfl) oQ az) (LW.pp (.ld isAgg3 rfl (hcz.nth (j := 0) rfl)) (Ah (.Y7 zeroValue3 rfl) rfl ?_)))
  rintro _ w4 ⟨B6, rfl, MB6⟩
  refine LW.E (.store sizeOf3 (.t rfl) (.t rfl) rfl MB6.blk (Nat.le_of_ble_eq_true rfl)) ?_
  intro w5 LB6
  have NB6 := MB6.set LB6
  replace hS := hS.Cj NB6
  refine LW.S (CW.region (LW.pp (.fA 0 underlying38 rfl sizeOf23 rfl) (LW.pp (.ld isAgg23 rfl ((hS.blk 0 rfl).cell h00)) (LW.pp (.makeFunc (.cons (.t rfl) .nil)) (LW.K (eC (.u rfl rfl) (wP)) rfl (bB 104 #[.pointer (some ⟨B6, 0, none⟩)] (fun f => decide (f.ID = id)) wQ adP cpP b.Processes _ (Els.up hEP hS.Ce) hlP (fun W u x => bC x id B6 W ((hS.blk 2 rfl).up u))) ?_)))))
  rintro _ w6 ⟨i, rfl, hi, uw6⟩
  replace hS := hS.up uw6
  refine LW.A rfl (LW.S (CW.region (LW.M rfl (LW.pp (.geq (.t rfl) (.const _)) (LW.T (CW.cond (.t rfl) (fun h22 => ?_) (fun h22 => ?_)))))))
  ·replace h22 := dQ h22
   refine CW.seq ?_
   obtain ⟨j, y, rfl, hy, hyp, hyn⟩ := hi.resolve_right (fun ⟨e, _⟩ => by omega)
   have hjl := (List.getElem?_eq_some_iff.1 hy).1
   obtain ⟨By, oy, ay, hcy⟩ := (Els.up hEP hS.Ce) j y hy
   refine Fl 15 [.eq (.agg bc), .eq (.pointer (some ⟨B3, 0, none⟩)), .eq (vi p.vd.w), .eq (.pointer (some ⟨B2, 0, none⟩)), .eq (.slice adP b.Processes.length cpP), .eq (vi (j : Int)), .eq (.pointer (some ⟨By, oy + j * 19, none⟩)), .eq (.pointer (some ⟨By, oy + j * 19 + 5, none⟩)), .eq (vi y.Time), .eq (.tuple #[vi (D6 b.Lots p.vd.w y.Time).1, vi (D6 b.Lots p.vd.w y.Time).2]), .eq (.tuple #[vi (D6 b.Lots p.vd.w y.Time).1, vi (D6 b.Lots p.vd.w y.Time).2]), .eq (vi (D6 b.Lots p.vd.w y.Time).1), .eq (vi (D6 b.Lots p.vd.w y.Time).2), .eq (vi (D6 b.Lots p.vd.w y.Time).1), .eq (vi (D6 b.Lots p.vd.w y.Time).2)] [8] kQ rfl kQ kQ kQ kQ kQ kQ kQ ⟨PhU.eq _, PhU.eq _, PhU.eq _, PhU.eq _, PhU.eq _, PhU.eq _, PhU.eq _, PhU.eq _, PhU.eq _, PhU.eq _, PhU.eq _, PhU.eq _, PhU.eq _, PhU.eq _, PhU.eq _, trivial⟩ ?_ ?_
   ·intro W hU0
    have hU := (Up.drew w6).trans hU0
    have hSW := hS.up hU
    refine aC ⟨rfl, TU.p (.Ee isAgg38 sizeOf38 hC.size (.t rfl) (hSW.blk 0 rfl).agg) rfl⟩ (aC ⟨rfl, TU.p (.fA 0 underlying32 rfl sizeOf3 rfl) rfl⟩ (aC ⟨rfl, TU.p (.ld isAgg3 rfl (Blk.Ai (v := vi p.vd.w) (hSW.blk 1 rfl) rfl)) rfl⟩ (aC ⟨rfl, TU.p (.fA 0 underlying38 rfl sizeOf23 rfl) rfl⟩ (aC ⟨rfl, TU.p (.ld isAgg23 rfl ((hSW.blk 0 rfl).cell h00)) rfl⟩ (aC ⟨rfl, TU.p (.move (.t rfl)) rfl⟩ (aC ⟨rfl, TU.p (.Aj underlying23 sizeOf36 (j := j) (.t rfl) (.t rfl) oQ ay) rfl⟩ (aC ⟨rfl, TU.p (.fA 5 underlying36 rfl sizeOf3 rfl) rfl⟩ (aC ⟨rfl, TU.p (.ld isAgg3 rfl ((hcy.up hU).nth (j := 5) rfl)) rfl⟩ (aC ⟨rfl, TU.c (eC (.cons (.t rfl) (.cons (.t rfl) (.cons (.t rfl) .nil))) (wR)) (qX bc b p.vd.w y.Time W (hC.up hSW.Ce) oQ) sQ⟩ (aC ⟨rfl, TU.p (.move (.t rfl)) rfl⟩ (aC ⟨rfl, TU.p (.extract (.t rfl) rfl) rfl⟩ (aC ⟨rfl, TU.p (.extract (.t rfl) rfl) rfl⟩ (aC ⟨rfl, TU.p (.assign (.t rfl)) rfl⟩ (aC ⟨rfl, TU.p (.assign (.t rfl)) rfl⟩ ?_))))))))))))))
    exact allL.nil
   intro w7 g hU0 hg
   have hU := (Up.drew w6).trans hU0
   replace hS := hS.up hU
   have e8 : g 8 = vi (D6 b.Lots p.vd.w y.Time).1 := hg 13 _ 8 cQ rfl rfl
   change LW _ _ _ _ _ _ _ _ ((8, .eq (g 8)) :: _) _
   rw [e8]
   refine LW.S (CW.region (LW.M rfl (LW.A rfl (LW.T (CW.ret (An (Af (Af (An (Af (Ae rfl rfl ⟨_, rfl, ?_⟩)))))))))))
   exact ⟨by rw [X8 hid hn hy hyp hyn], hS.Ce⟩
  replace h22 := dQ h22
  refine CW.skip (KW.inBlock (KW.then (CW.region (LW.pp (.inc (.t rfl) oQ) (LW.M rfl (LW.nil (KW.round ?_)))))))
  exact ⟨k + 1, ⟨by omega, Gv (p := fun y => (Jf b y).isSome) hid hn (dU (hi.resolve_left (fun ⟨j, x, e, _⟩ => by omega)).2), hS.take 2⟩, ⟨rfl, rfl, rfl, rfl, rfl, trivial⟩, by omega⟩
 replace h14 := dQ h14
 refine CW.exit (Aa (Aa (Ad (KW.then (CW.S (LW.C (LW.T (CW.ret (Ae rfl rfl ⟨_, rfl, ?_⟩)))))))))
 exact ⟨by rw [dS (by rw [show k = p.vd.why.length by omega, List.take_length] at hn; exact hn)], hS.Ce⟩
end Go.Proofs.YtmimclgihlhaeaaGreat
end
section
namespace Go.Wx.Mk
open Go.RowKit Go.MapKept Go.Wx
open Go.ChangeMaps (setBlock)
variable {κ : Type} {Q : KT κ}
def MidM [DecidableEq κ] (Q : KT κ) (P : Program) (T : TypeId) (w : World) (b : Nat) (kv : List (κ × Value)) (k : κ) (st : Nat) : Prop :=
 ∃ es1 clock1, w.heap[b]? = some (.map es1 clock1) ∧ ∀ (w2 : World) (val : Value), w2.heap[b]? = some (.map es1 clock1) → ∃ w', (Instr.entryStore T (.map (some b)) (goInt st) val).run P w2 = .ok () w' ∧ IMap Q w' b (D5 kv k val) ∧ Sto b w2 w' ∧ w'.heap.size = w2.heap.size
def zO [DecidableEq κ] (Q : KT κ) (P : Program) (T : TypeId) (b : Nat) (kv : List (κ × Value)) (k : κ) (st : Nat) : Asr := ⟨(· = b), fun w => MidM Q P T w b kv k st, fun _ _ h e _ => by
 obtain ⟨es1, c1, h1, h2⟩ := h
 exact ⟨es1, c1, (e b rfl (lt_of_block h1)).trans h1, h2⟩, fun w h i (e : i = b) => by
 obtain ⟨es1, c1, h1, _⟩ := h
 rw [e]; exact lt_of_block h1⟩
section
variable {P : Program} {n : Nat} {ds : List Deferred} {l : Env} {w : World} {d : Option Tmp} {ty : TypeId} {ps : String} {af : Array Edge} {g : Option (Nat × Bool)}
theorem REv.mapEntry [DecidableEq κ] {T K E : TypeId} {m x : Operand} {b : Nat} {k : κ} {z : Value} {kv : List (κ × Value)} (hT : P.underlying T = some (.map K E)) (hK : Q.Law P K) (hko : Q.ok k) (hz : ∀ w, (zeroValue E).run P w = .ok z w) (hm : Val l m (.map (some b))) (hx : Val l x (Q.vk k)) (h : IMap Q w b kv) :
   REv P n ds l w ⟨d, .mapEntry T m x, ty, ps, af, g⟩ (fun v w' => ∃ v0 st, v = .tuple #[v0, goInt (st : Nat)] ∧ ((k ∉ kv.map (·.1) ∧ v0 = z) ∨ (k, v0) ∈ kv) ∧ MidM Q P T w' b kv k st ∧ Sto b w w' ∧ w'.heap.size = w.heap.size) := fun a ha => by
 obtain ⟨es, clock, hb, hs, he, ho⟩ := h
 have fin : ∀ (w : World) (o o' : Obj), w.heap[b]? = some o' → Sto b w { w with heap := w.heap.setIfInBounds b o } := fun w o o' hb => ⟨rfl, rfl, rfl, by simp, fun i _ hne => (heap_set hb).2 i hne⟩
 rcases hK.find w hko es.toList (mD he ho) with ⟨h1, h2⟩ | ⟨j, e, h1, h2, h3⟩
 · have hni : k ∉ kv.map (·.1) := fun hmem => by
     obtain ⟨p, hp, hpk⟩ := List.mem_map.1 hmem
     obtain ⟨x', hx', L0, _⟩ := C5 he hp
     exact h2 x' hx' (by rw [L0, hpk])
   refine ⟨_, _, A9 (v := .tuple #[z, goInt clock]) (w' := { w with heap := w.heap.setIfInBounds b (.map (es.push { key := Q.vk k, val := z, born := clock }) (clock + 1)) }) ?_, z, clock, rfl, .inl ⟨hni, rfl⟩, ⟨_, _, (heap_set hb).1, fun w2 val hw2 => ⟨{ w2 with heap := w2.heap.setIfInBounds b (.map (es.push { key := Q.vk k, val := val, born := clock }) (clock + 1)) }, ?_, ⟨_, _, (heap_set hw2).1, stamped_push hs h2, ?_, P9 ho hko⟩, fin w2 _ _ hw2, by simp⟩⟩, fin w _ _ hb, by simp⟩
   · rw [ha.ev hm, ha.ev hx]
     simp [Instr.mapEntry, run_underlying hT, MapKept.run_getObj_map hb, hK.check w _ hko, h1, hz, MapKept.run_setObj_map _ hb, Result.andThen]
   · have hidx : (es.push ⟨Q.vk k, z, clock⟩).findIdx? (fun e => ((e.born : Nat) : Int) == ((clock : Nat) : Int)) = some es.size := by
       rw [Go.WideElems.findIdx_arr]
       exact Go.WideElems.findIdx_born (l := (es.push ⟨Q.vk k, z, clock⟩).toList) (j := es.size) (e0 := ⟨Q.vk k, z, clock⟩) (stamped_push hs h2).2.1 (by simp)
     have hmod : (es.push ⟨Q.vk k, z, clock⟩).modify es.size (fun e => { e with val := val }) = es.push ⟨Q.vk k, val, clock⟩ := by
       apply Array.ext'
       rw [Array.toList_modify, Array.toList_push, Array.toList_push, ← Array.length_toList, Go.WideElems.modify_last]
     simp [Instr.entryStore, MapKept.run_getObj_map hw2, asInt, asIntOf, goInt, hidx, hmod, MapKept.run_setObj_map _ hw2, Result.andThen]
   rw [D5, if_neg hni]
   simp [he, Dx, Ha]
 have hj : es[j]? = some e := by simpa using h2
 have hkey : ∀ (val : Value) e', es[j]? = some e' → ({ e' with key := Q.vk k, val := val } : MapEntry).key = e'.key := fun _ e' he' => by rw [hj] at he'; cases he'; exact h3.symm
 have hsame : es.modify j (fun e => { e with key := Q.vk k }) = es := by
   apply Array.ext'
   rw [Array.toList_modify, Go.ChangeMaps.modify_eq_set _ _ _ _ h2]
   have : ({ e with key := Q.vk k } : MapEntry) = e := by rw [← h3]
   rw [this]
   exact Go.WideElems.set_self _ _ _ h2
 have hin : (k, e.val) ∈ kv := by
   obtain ⟨k', hk', hm'⟩ := E4 he e (List.mem_of_getElem? h2)
   have : k' = k := Q.inj (hk'.symm.trans h3)
   rwa [this] at hm'
 refine ⟨_, _, A9 (v := .tuple #[e.val, goInt e.born]) (w' := { w with heap := w.heap.setIfInBounds b (.map es clock) }) ?_, e.val, e.born, rfl, .inr hin, ⟨_, _, (heap_set hb).1, fun w2 val hw2 => ⟨{ w2 with heap := w2.heap.setIfInBounds b (.map (es.modify j fun e => { e with key := Q.vk k, val := val }) clock) }, ?_, ⟨_, _, (heap_set hw2).1, stamped_modify hs _ _ (fun _ _ => rfl) (fun e' _ he' => hkey val e' he'), F5 hs he hj h3, P9 ho hko⟩, fin w2 _ _ hw2, by simp⟩⟩, fin w _ _ hb, by simp⟩
 · rw [ha.ev hm, ha.ev hx]
   simp [Instr.mapEntry, run_underlying hT, MapKept.run_getObj_map hb, hK.check w _ hko, h1, hj, h3, hK.stays w hko, hsame, MapKept.run_setObj_map _ hb, Result.andThen]
 have hidx : es.findIdx? (fun x => ((x.born : Nat) : Int) == ((e.born : Nat) : Int)) = some j := by
   rw [Go.WideElems.findIdx_arr]
   exact Go.WideElems.findIdx_born hs.2.1 h2
 have hmod : es.modify j (fun e => { e with val := val }) = es.modify j (fun e' => { e' with key := Q.vk k, val := val }) := by
   apply Array.ext'
   rw [Array.toList_modify, Array.toList_modify, Go.ChangeMaps.modify_eq_set _ _ _ _ h2, Go.ChangeMaps.modify_eq_set _ _ _ _ h2, ← h3]
 simp [Instr.entryStore, MapKept.run_getObj_map hw2, asInt, asIntOf, goInt, hidx, hmod, MapKept.run_setObj_map _ hw2, Result.andThen]
theorem SEv.entryStore [DecidableEq κ] {T : TypeId} {m s x : Operand} {b st : Nat} {k : κ} {v : Value} {kv : List (κ × Value)} (hm : Val l m (.map (some b))) (hs : Val l s (goInt (st : Nat))) (hx : Val l x v) (h : MidM Q P T w b kv k st) :
   SEv P n ds l w ⟨none, .entryStore T m s x, ty, ps, af, g⟩ (fun w' => IMap Q w' b (D5 kv k v) ∧ Sto b w w' ∧ w'.heap.size = w.heap.size) := fun a ha => by
 obtain ⟨es1, c1, h1, h2⟩ := h
 obtain ⟨w', h3, h4⟩ := h2 w v h1
 exact ⟨w', Kc (by rw [ha.ev hm, ha.ev hs, ha.ev hx]; exact h3), h4⟩
end
end Go.Wx.Mk
end
