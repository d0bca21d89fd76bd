import Derived.Test.YtgjogglfnkgapaaGreatDoorKR18
import Derived.Lib.Builder
import Derived.Lib.UnsafeStr
import Derived.Laws.Externs
import Derived.Laws.BytesArg
import Derived.Test.YtgjogglfnkgapaaGreatDoorProg
namespace Go.Wx
open Go.RowKit Go.Lib
def Dt (As : List Asr) : Asr where
 foot := fun i => ∃ A ∈ As, A.foot i
 holds := fun w => (∀ A ∈ As, A.holds w) ∧ As.Pairwise fun (A B : Asr) => ∀ (i : Nat), A.foot i → ¬ B.foot i
 keep _ _ h k z := ⟨fun A hA => A.keep _ _ (h.1 A hA) (fun i hi hl => k i ⟨A, hA, hi⟩ hl) z, h.2⟩
 lt _ h i := fun ⟨A, hA, hi⟩ => A.lt _ (h.1 A hA) i hi
section
variable {S0 : Nat → Prop} {w0 w w' : World} {As As' Bs rest : List Asr}
theorem Pj (h : (Dt As).holds w) : Sep (Dt As).foot w w As := ⟨Fr.refl _ _, fun A hA => ⟨h.1 A hA, fun _ hi => .inl ⟨A, hA, hi⟩⟩, h.2⟩
theorem Kn (h : Sep (Dt As).foot w0 w (As' ++ rest)) : Stp (Dt As) (Dt As') w0 w :=
 ⟨h.fr, ⟨fun A hA => (h.each A (List.mem_append_left _ hA)).1, (List.pairwise_append.1 h.apart).1⟩, fun i ⟨A, hA, hi⟩ => (h.each A (List.mem_append_left _ hA)).2 i hi⟩
theorem Oc (h : Sep S0 w0 w (Bs ++ As ++ rest)) : Sep S0 w0 w (Bs ++ Dt As :: rest) := by
 have h1 := List.pairwise_append.1 h.apart
 have h2 := List.pairwise_append.1 h1.1
 refine ⟨h.fr, fun A hA => ?_, List.pairwise_append.2 ⟨h2.1, List.pairwise_cons.2 ⟨fun C hC i hi => ?_, h1.2.1⟩, fun A hA C hC i hi => ?_⟩⟩
 · rcases List.mem_append.1 hA with hA | hA
   · exact h.each A (by simp [hA])
   rcases List.mem_cons.1 hA with rfl | hA
   · exact ⟨⟨fun A hA => (h.each A (by simp [hA])).1, h2.2.1⟩, fun i ⟨A, hA, hi⟩ => (h.each A (by simp [hA])).2 i hi⟩
   exact h.each A (by simp [hA])
 · obtain ⟨A, hA, hi⟩ := hi
   exact h1.2.2 A (by simp [hA]) C hC i hi
 rcases List.mem_cons.1 hC with rfl | hC
 · rintro ⟨C, hC, hi2⟩
   exact h2.2.2 A hA C hC i hi hi2
 exact h1.2.2 A (by simp [hA]) C hC i hi
theorem Sep.unfold (h : Sep S0 w0 w (Bs ++ Dt As :: rest)) : Sep S0 w0 w (Bs ++ As ++ rest) := by
 have h1 := List.pairwise_append.1 h.apart
 have h2 := List.pairwise_cons.1 h1.2.1
 have ha := h.each (Dt As) (by simp)
 refine ⟨h.fr, fun A hA => ?_, List.pairwise_append.2 ⟨List.pairwise_append.2 ⟨h1.1, ha.1.2, fun A hA C hC i hi hi2 => ?_⟩, h2.2, fun A hA C hC i hi => ?_⟩⟩
 · rcases List.mem_append.1 hA with hA | hA
   · rcases List.mem_append.1 hA with hA | hA
     · exact h.each A (by simp [hA])
     exact ⟨ha.1.1 A hA, fun i hi => ha.2 i ⟨A, hA, hi⟩⟩
   exact h.each A (by simp [hA])
 · exact h1.2.2 A hA (Dt As) (by simp) i hi ⟨C, hC, hi2⟩
 rcases List.mem_append.1 hA with hA | hA
 · exact h1.2.2 A hA C (by simp [hC]) i hi
 exact h2.1 C hC i ⟨A, hA, hi⟩
end
section
variable {P : Program} {n : Nat} {ds : List Deferred} {l : Env} {w : World} {d : Option Tmp} {ty : TypeId} {ps : String} {af : Array Edge} {g : Option (Nat × Bool)}
theorem Vd {w : World} {B : Nat} {cs : Array Value} {T : TypeId} (h : Blk w B cs T) : w.shape? B = some (T, cs.size) := by
 unfold Blk at h
 simp [World.shape?, h]
theorem PEv.GZ {src dst t TT : TypeId} {x : Operand} {B o k : Nat} {cs : Array Value} (hs : P.underlying src = some (.pointer t)) (hd : P.underlying dst = some .unsafePointer) (ht : (P.info? t).map (·.size) = some (k + 1)) (hx : Val l x (.pointer (some ⟨B, o, none⟩))) (hb : Blk w B cs TT) (ho : o < cs.size) :
   PEv P n ds l w ⟨d, .convert src dst x, ty, ps, af, g⟩ (.pointer (some ⟨B, o, none⟩)) := fun a w' ha hu => by
 obtain ⟨j, hj, hjs⟩ := Option.map_eq_some_iff.1 ht
 refine Cm ?_
 rw [ha.ev hx]
 exact run_to_unsafe w' ⟨B, o, none⟩ hs hd hj oQ (Vd (hb.up hu)) ho
theorem PEv.sK {src dst u TT : TypeId} {x : Operand} {B o k : Nat} {cs : Array Value} (hs : P.underlying src = some .unsafePointer) (hd : P.underlying dst = some (.pointer u)) (ht : (P.info? u).map (·.size) = some k) (hx : Val l x (.pointer (some ⟨B, o, none⟩))) (hb : Blk w B cs TT)
   (hl : liesAt P P.depth TT (cs.size / P.cellsOf TT) o u 1 = true) :
   PEv P n ds l w ⟨d, .convert src dst x, ty, ps, af, g⟩ (.pointer (some ⟨B, o, none⟩)) := fun a w' ha hu => by
 obtain ⟨j, hj, _⟩ := Option.map_eq_some_iff.1 ht
 refine Cm ?_
 rw [ha.ev hx]
 exact run_from_unsafe w' ⟨B, o, none⟩ hs hd hj (Vd (hb.up hu)) hl
theorem X8 {T te T' : TypeId} {x y : Operand} {k : Nat} {ad : Addr} (hT : P.underlying T = some (.pointer te)) (ht : (P.info? te).map (·.size) = some k) (hx : Val l x (.pointer (some ad))) (hy : Val l y (.pointer (some ad))) :
   PEv P n ds l w ⟨d, .binOp .neq T x y T', ty, ps, af, g⟩ (.bool false) := fun a w' ha _ => by
 obtain ⟨j, hj, _⟩ := Option.map_eq_some_iff.1 ht
 refine Cm ?_
 rw [ha.ev hx, ha.ev hy, Sem.run_bind]
 have : (eqGuard .neq T x y (.pointer (some ad)) (.pointer (some ad))).run P w' = .ok () w' := by unfold eqGuard; rfl
 rw [this]
 exact run_neq_ptr_same w' ad hT hj
theorem PEv.ext {xs : Array Operand} {ts : Array TypeId} {f : FuncId} {vs : List Value} {v : Value} (hv : Vals l xs.toList vs) (hf : ∀ w, (callFunc f vs.toArray).run P w = .ok (.value v) w) :
   PEv P n ds l w ⟨d, .call { callee := .value (.func f), args := xs, argTypes := ts }, ty, ps, af, g⟩ v := fun a w' ha _ => by
 have e1 : xs.map a.eval = vs.toArray := by apply Array.ext'; simp [ha.IG hv]
 have e : a.eval (.func f) = .func (.func f) #[] #[] := rfl
 simp only [execOp, resolve, e, e1, Deferred.ofValue, Sem.run_bind, Sem.run_pure, Result.andThen, invoke]
 simpa using hf w'
theorem Wr {f : FuncId} {fn : Func} (hf : P.funcs[f]? = some fn) (h1 : (fn.name == "runtime.NumGoroutine") = false) (h2 : fn.body.isNone = true) (h3 : Extern.findNext fn = none) (h4 : Extern.find fn = some Extern.AbiNoEscape.same) (v : Value) (w : World) :
   (callFunc f [v].toArray).run P w = .ok (.value v) w := by
 rw [run_callFunc_extern hf h1 h2 h3 h4]
 rfl
end
theorem Ws {S : Nat → Prop} {w w' : World} {ad : Addr} {v : Value} (h : w.cell? ad = some v) (f : Fr S w w') (hn : ¬ S ad.block) : w'.cell? ad = some v := by
 unfold World.cell? at h ⊢
 cases hb : w.heap[ad.block]? with
 | none => rw [hb] at h; cases h
 | some o => rw [hb] at h; rw [f.block _ (lt_of_block hb) hn, hb]; exact h
theorem Els.fr {α : Type} {S : Nat → Prop} {w w' : World} {ad : Option Addr} {k : Nat} {enc : α → Array Value} {xs : List α} (h : Els w ad k enc xs) (f : Fr S w w') (hn : ∀ B o, ad = some ⟨B, o, none⟩ → ¬ S B) : Els w' ad k enc xs := fun i x hx =>
 let ⟨B, o, h1, h2⟩ := h i x hx
 ⟨B, o, h1, fun j v hv => Ws (h2 j v hv) f (hn B _ h1)⟩
theorem Blk.fr {S : Nat → Prop} {w w' : World} {B : Nat} {cs : Array Value} {T : TypeId} (h : Blk w B cs T) (f : Fr S w w') (hn : ¬ S B) : Blk w' B cs T := (f.block _ h.lt hn).trans h
theorem iW (a : List UInt8) (b : ByteArray) : (⟨a.toArray⟩ : ByteArray) ++ b = ⟨(a ++ b.data.toList).toArray⟩ := by
 apply ByteArray.ext
 simp
def Q2 (b : UInt8) : Array Value := #[bv b]
theorem fF (x : UInt8) : (Q2 x).all (·.oneCell') = true := by simp [Q2, bv, Value.oneCell']
theorem Od : ∀ (l : List UInt8), (l.flatMap fun x => (Q2 x).toList) = l.map bv
 | [] => rfl
 | x :: l => by rw [List.flatMap_cons, Od l]; rfl
structure Wri where
 bd : Nat
 us : Bool
 bf : Value
def Wri.ad (D : Wri) : Value := .pointer (if D.us then some ⟨D.bd, 0, none⟩ else none)
def M7 (TW e : TypeId) (D : Wri) (bs : List UInt8) : List Asr := [Cc D.bd #[D.ad, D.bf] TW, J e 1 Q2 D.bf bs]
def D8 (TW e : TypeId) (D : Wri) (bs : List UInt8) : Asr := Dt (M7 TW e D bs)
theorem R8 {TW e : TypeId} {D : Wri} {bs : List UInt8} {w : World} (h : (D8 TW e D bs).holds w) : OwnS w 0 e 1 Q2 D.bf bs := h.1 (J e 1 Q2 D.bf bs) (by simp [M7])
theorem X9 {TW e : TypeId} {D : Wri} {bs : List UInt8} {w : World} (h : (D8 TW e D bs).holds w) : Blk w D.bd #[D.ad, D.bf] TW := h.1 (Cc D.bd #[D.ad, D.bf] TW) (by simp [M7])
theorem Ve {TW e : TypeId} {D : Wri} {bs : List UInt8} {i : Nat} (h : (D8 TW e D bs).foot i) : i = D.bd ∨ D.bf.ownBlock = some i := by
 obtain ⟨A, hA, hi⟩ := h
 simp only [M7, List.mem_cons, List.mem_nil_iff, or_false] at hA
 rcases hA with rfl | rfl
 · exact .inl hi
 exact .inr hi
theorem bC {TW e : TypeId} {D : Wri} {bs : List UInt8} {i : Nat} (h : i = D.bd ∨ D.bf.ownBlock = some i) : (D8 TW e D bs).foot i := by
 rcases h with h | h
 · exact ⟨_, List.mem_cons_self, h⟩
 exact ⟨_, List.mem_cons_of_mem _ List.mem_cons_self, h⟩
theorem sL {TW e : TypeId} {D : Wri} {bs : List UInt8} {w w' : World} {bq : Nat} (h : (D8 TW e D bs).holds w) (k : Ko bq w w') : (D8 TW e D bs).holds w' := by
 refine ⟨fun A hA => ?_, h.2⟩
 have h1 := h.1 A hA
 simp only [M7, List.mem_cons, List.mem_nil_iff, or_false] at hA
 rcases hA with rfl | rfl
 · exact Blk.ko h1 k
 exact OwnS.ko h1 k
theorem Fr.ko {S : Nat → Prop} {w0 w w' : World} {bq : Nat} (h : Fr S w0 w) (k : Ko bq w w') (hb : w0.heap.size ≤ bq) : Fr S w0 w' :=
 ⟨k.os.trans h.os, k.tape.trans h.tape, k.output.trans h.output, Nat.le_trans h.size k.size, fun i hi hs => by
   have h1 := h.block i hi hs
   have h2 : w.heap[i]? = some w0.heap[i] := by rw [h1]; simp [hi]
   rw [k.same i _ h2 (.inl oQ), ← h2, h1]⟩
theorem Kx.fr {bq : Nat} {X Y S : Nat → Prop} {w w' : World} (h : Fr S w w') (hX : ∀ i, S i → X i) (hc : ∀ i o, S i → w.heap[i]? = some o → o.isCells = true) : Kx bq X Y w w' :=
 ⟨h.os, h.tape, h.output, h.size, fun i o hi ho => (h.block i (lt_of_block hi) (fun hs => by
   rcases ho with ho | ho
   · exact ho.2 (hX i hs)
   rw [hc i o hs hi] at ho; cases ho.1)).trans hi⟩
theorem Kf.fr {bq : Nat} {S : Nat → Prop} {w w' : World} (h : Fr S w w') (hc : ∀ i o, S i → w.heap[i]? = some o → o.isCells = true) : Kf bq w w' :=
 ⟨h.size, fun i o _ hi ho => (h.block i (lt_of_block hi) (fun hs => by rw [hc i o hs hi] at ho; cases ho)).trans hi⟩
theorem bD {TW e : TypeId} {D : Wri} {bs : List UInt8} {w : World} (h : (D8 TW e D bs).holds w) : ∀ i o, (D8 TW e D bs).foot i → w.heap[i]? = some o → o.isCells = true := fun i o hf hi => by
 rcases Ve hf with rfl | hf
 · have := X9 h
   unfold Blk at this
   rw [this] at hi; cases hi; rfl
 obtain ⟨_, ⟨e', _⟩ | ⟨g, cap, cur, e', hb, hg, rest⟩⟩ := R8 h
 · rw [e'] at hf; cases hf
 rw [e'] at hf; cases hf
 rw [hg] at hi; cases hi; rfl
theorem Jk {TW e : TypeId} {D : Wri} {bs : List UInt8} {w : World} {B : Nat} {cs : Array Value} {T : TypeId} {x : Nat × Nat} (h : (D8 TW e D bs).holds w) (hb : w.heap[B]? = some (Obj.cells cs T x)) (h1 : Nat.beq T e = false) (h2 : Nat.beq T TW = false) : ¬ (D8 TW e D bs).foot B := fun hf => by
 rcases Ve hf with rfl | hf
 · have := X9 h
   unfold Blk at this
   rw [this] at hb; cases hb
   simp at h2
 obtain ⟨_, ⟨e', _⟩ | ⟨g, cap, cur, e', _, hg, _⟩⟩ := R8 h
 · rw [e'] at hf; cases hf
 rw [e'] at hf; cases hf
 rw [hg] at hb; cases hb
 simp at h1
theorem Stp.ko {A : Asr} {TW e : TypeId} {D : Wri} {bs : List UInt8} {w0 w w' : World} {bq : Nat} (h : Stp A (D8 TW e D bs) w0 w) (k : Ko bq w w') (hb : w0.heap.size ≤ bq) : Stp A (D8 TW e D bs) w0 w' := ⟨h.fr.ko k hb, sL h.holds k, h.sub⟩
theorem Els.kx {α : Type} {bq : Nat} {X Y : Nat → Prop} {w w' : World} {ad : Option Addr} {k : Nat} {enc : α → Array Value} {xs : List α} (h : Els w ad k enc xs) (u : Kx bq X Y w w') (hn : ∀ B o, ad = some ⟨B, o, none⟩ → ¬ X B) : Els w' ad k enc xs := fun i x hx =>
 let ⟨B, o, h1, h2⟩ := h i x hx
 ⟨B, o, h1, fun j v hv => by
   have hc := h2 j v hv
   unfold World.cell? at hc ⊢
   cases hb : w.heap[B]? with
   | none => simp only [hb] at hc; cases hc
   | some ob =>
     cases ob with
     | cells cs T x => rw [u.same B _ hb (.inl ⟨rfl, hn B _ h1⟩)]; rw [hb] at hc; exact hc
     | _ => simp only [hb] at hc; cases hc⟩
theorem fG {S0 : Nat → Prop} {w0 w : World} {Bs : List Asr} {TW e : TypeId} {B : Nat} (h : Sep S0 w0 w (Bs ++ [Cc B #[.pointer none, .slice none 0 0] TW])) : Sep S0 w0 w (Bs ++ [D8 TW e ⟨B, false, .slice none 0 0⟩ []]) := by
 have h1 := h.add (Up.refl _) (A' := J e 1 Q2 (.slice none 0 0) ([] : List UInt8)) (OwnS.nil _ _ _ _ _) (fun i hi => by cases hi)
 have h2 := Oc (Bs := Bs) (As := M7 TW e ⟨B, false, .slice none 0 0⟩ []) (rest := []) (by simpa [M7, Wri.ad] using h1)
 exact h2
section
variable {P : Program} {n : Nat} {ds : List Deferred} {l : Env} {w : World} {d : Option Tmp} {ty : TypeId} {ps : String} {af : Array Edge} {g : Option (Nat × Bool)}
theorem REv.iX {e T Ts : TypeId} {i : TypeInfo} {s x : Operand} {v : Value} {bs : List UInt8} {t : ByteArray} (hT : P.underlying T = some (.slice e)) (hTs : P.underlying Ts = some .string) (hi : P.info? e = some i) (hz : i.zero = some (.int .u8 0)) (hsz : i.size = 1) (hby : i.bytes = 1)
   (hs : Val l s v) (hx : Val l x (.string t)) (ho : OwnS w 0 e 1 Q2 v bs) (hb : bs.length + t.size ≤ 140737488355328) :
   REv P n ds l w ⟨d, .call { callee := .builtin .append, args := #[s, x], argTypes := #[T, Ts] }, ty, ps, af, g⟩ (fun v' w' => Stp (J e 1 Q2 v bs) (J e 1 Q2 v' (bs ++ t.data.toList)) w w') := fun a ha => by
 have e0 : ∀ c : List UInt8, (c.flatMap fun x => (Q2 x).toList) = byteCells c := fun c => by rw [Od]; rfl
 have ho' : w.ownsRow 0 e 1 v bs.length (byteCells bs) := by have := ho; unfold OwnS at this; rw [e0] at this; exact this
 obtain ⟨v', w', hr, h2, h3, _⟩ := run_append_own_string (P := P) w 0 T Ts ty e i hT hTs hi hz hsz hby v bs.length _ ho' t (by simp only [maxLen]; omega) hb (Nat.zero_le _)
 rw [strCells_eq, ← byteCells_append] at h2
 have hl : (bs ++ t.data.toList).length = bs.length + t.size := by rw [List.length_append, Array.length_toList]; rfl
 have hown : OwnS w' 0 e 1 Q2 v' (bs ++ t.data.toList) := by unfold OwnS; rw [e0, hl]; exact h2
 refine ⟨v', w', ?_, ⟨h3.os, h3.tape, h3.output, h3.size, fun i hi hb => h3.block i hi (fun e => hb e.symm)⟩, hown, ?_⟩
 · simp only [execOp, resolve, invoke, builtin, Sem.run_bind, Sem.run_pure, Result.andThen_ok, List.map_toArray, List.map_cons, List.map_nil, ha.ev hs, ha.ev hx, hr]
 -- the new row: the old one, or a new block
 intro q hq
 obtain ⟨hlen, ⟨rfl, hn⟩ | ⟨g', cap, cur, rfl, _, hg, hcap, hcm, hcs, htake⟩⟩ := ho'
 · rcases Nat.lt_or_ge q w.heap.size with h | h
   · exfalso
     by_cases hm : t.size = 0
     · have hf := run_firstCells_string (P := P) w 1 t
       rw [hm] at hf
       have hr2 : (Builtin.append_ #[T, Ts] ty #[.slice none 0 0, .string t]).run P w = .ok (.slice none 0 0) w := by
         simp [Builtin.append_, run_underlying hT, run_underlying hTs, sizeOf, typeInfo, hi, hsz, Builtin.lenOf, hm, hf]
       rw [hr] at hr2
       cases hr2
       cases hq
     have hr2 := run_append_nil_string (P := P) w T Ts ty e i (.int .u8 0) hT hTs hi hz t oQ oQ (by rw [hby]; omega)
     rw [hr] at hr2
     cases hr2
     cases hq
     exact Nat.lt_irrefl _ h
   exact .inr h
 by_cases hroom : bs.length + t.size ≤ cap
 · have hr2 := run_append_room_string (P := P) w T Ts ty e i hT hTs hi hsz g' bs.length cap cur hg t hroom (by rw [hcs]; omega)
   rw [hr] at hr2
   cases hr2
   exact .inl hq
 have holds : ∀ j u, (byteCells bs)[j]? = some u → w.cell? ((⟨g', 0, none⟩ : Addr).add j) = some u := World.ownsRow.cells (g := g') (show w.ownsRow 0 e 1 (.slice (some ⟨g', 0, none⟩) bs.length cap) bs.length _ from ⟨hlen, .inr ⟨g', cap, cur, rfl, Nat.zero_le _, hg, hcap, hcm, hcs, htake⟩⟩) rfl
 have hr2 := run_append_grow_string (P := P) w T Ts ty e i (.int .u8 0) hT hTs hi hz ⟨g', 0, none⟩ bs.length cap _ (by rw [hsz]; simpa using hlen) holds t oQ oQ (by rw [hby]; exact growslice_fits oQ oQ)
 rw [hr] at hr2
 cases hr2
 cases hq
 exact .inr (by simp)
theorem PEv.iY {T : TypeId} {ts : Array TypeId} {x : Operand} {B m cp : Nat} (hc : cp ≠ 0) (hx : Val l x (.slice (some ⟨B, 0, none⟩) m cp)) :
   PEv P n ds l w ⟨d, .call { callee := .builtin .unsafeSliceData, args := #[x], argTypes := ts }, T, ps, af, g⟩ (.pointer (some ⟨B, 0, none⟩)) := fun a w' ha _ => by
 have := run_unsafeSliceData_row (P := P) w' ts T ⟨B, 0, none⟩ m cp hc
 simp only [execOp, resolve, invoke, builtin, Sem.run_bind, Sem.run_pure, Result.andThen_ok, List.map_toArray, List.map_cons, List.map_nil, ha.ev hx, this]
theorem REv.iZ {T it e : TypeId} {x y : Operand} {B cp : Nat} {bs : List UInt8} {pt : TypeId} (hp : P.underlying pt = some (.pointer e)) (hc : P.cellsOf e = 1) (hx : Val l x (.pointer (some ⟨B, 0, none⟩))) (hy : Val l y (.int .i64 (bs.length : Int)))
   (ho : OwnS w 0 e 1 Q2 (.slice (some ⟨B, 0, none⟩) bs.length cp) bs) (h0 : bs ≠ []) (h63 : bs.length ≤ 9223372036854775807) :
   REv P n ds l w ⟨d, .call { callee := .builtin .unsafeString, args := #[x, y], argTypes := #[pt, it] }, T, ps, af, g⟩ (fun v w' => v = .string ⟨bs.toArray⟩ ∧ Fr (fun i => some B = some i) w w') := fun a ha => by
 have e0 : ∀ c : List UInt8, (c.flatMap fun x => (Q2 x).toList) = byteCells c := fun c => by rw [Od]; rfl
 have ho' : w.ownsRow 0 e 1 (.slice (some ⟨B, 0, none⟩) bs.length cp) bs.length (byteCells bs) := by have := ho; unfold OwnS at this; rw [e0] at this; exact this
 have hcell := World.ownsRow.cells (g := B) ho' rfl
 obtain ⟨hlen, ⟨h, _⟩ | ⟨g', cap, cur, h, _, hg, hcap, hcm, hcs, htake⟩⟩ := ho'
 · cases h
 cases h
 have hsh : w.shape? B = some (e, cp) := by simp [World.shape?, hg]; omega
 have := run_unsafeString_row (P := P) w pt it T e hp hc B cp hsh bs h0 hcap h63 (fun j x hx => hcell j _ (by simp [byteCells, hx]))
 refine ⟨.string ⟨bs.toArray⟩, w.freeze ⟨B, 0, none⟩ bs.length, ?_, rfl, ?_⟩
 · simp only [execOp, resolve, invoke, builtin, Sem.run_bind, Sem.run_pure, Result.andThen_ok, List.map_toArray, List.map_cons, List.map_nil, ha.ev hx, ha.ev hy, this]
 unfold World.freeze
 split
 · exact Fr.refl _ _
 exact ⟨rfl, rfl, rfl, by simp, fun i hi hs => by
   simp only [Array.getElem?_modify]
   rw [if_neg (fun e => hs (by rw [e]))]⟩
theorem PEv.yU {T Ts e e' : TypeId} {x : Operand} {v : Value} {bs : List UInt8} {base : Nat} (hT : P.underlying T = some (.slice e)) (he : P.underlying e = some (.int .u8)) (hTs : P.underlying Ts = some .string) (hx : Val l x v) (ho : OwnS w base e' 1 Q2 v bs) :
   PEv P n ds l w ⟨d, .convert T Ts x, ty, ps, af, g⟩ (.string ⟨bs.toArray⟩) := fun a w' ha hu => by
 refine Cm ?_
 rw [ha.ev hx]
 have ho' := ho.up hu
 have hr := ho'
 unfold OwnS at hr
 rw [Od] at hr
 obtain ⟨hlen, ⟨rfl, hn⟩ | ⟨g', cap, cur, rfl, hb, hg, rest⟩⟩ := ho
 · have hbs : bs = [] := List.eq_nil_of_length_eq_zero hn
   subst hbs
   exact run_convert_bytes_nil (P := P) w' T e hT he 0 0 Ts hTs
 have hcell := World.ownsRow.cells (g := g') hr rfl
 exact run_convert_bytes_back (P := P) w' T Ts e ⟨g', 0, none⟩ cap bs hT he hTs (fun q hq => hcell q _ (by rw [List.getElem?_map, List.getElem?_eq_getElem hq]; rfl))
theorem PEv.yV {T T' : TypeId} {x y : Operand} {a b : ByteArray} (hx : Val l x (.string a)) (hy : Val l y (.string b)) (h : a.size + b.size ≤ 9223372036854775807) : PEv P n ds l w ⟨d, .binOp .add T x y T', ty, ps, af, g⟩ (.string (a ++ b)) := fun ac w' ha _ => by
 refine Cm ?_
 rw [ha.ev hx, ha.ev hy, Sem.run_bind]
 have : (eqGuard .add T x y (.string a) (.string b)).run P w' = .ok () w' := by unfold eqGuard; rfl
 rw [this]
 simp [binOp, Op.stringOp]
 omega
end
end Go.Wx
namespace Go.Wx
open Go.RowKit
class Tu (P : Program) (T : TypeId) where
  u : TypeDesc
  e : P.underlying T = some u
class Ts (P : Program) (T : TypeId) where
  k : Nat
  e : ∀ w, (sizeOf T).run P w = .ok k w
class Ta (P : Program) (T : TypeId) where
  b : Bool
  e : ∀ w, (isAgg T).run P w = .ok b w
def nF : List Field → Nat → Option Field
  | [], _ => none
  | x :: _, 0 => some x
  | _ :: l, i + 1 => nF l i
theorem xU : ∀ (l : List Field) (i : Nat), nF l i = l[i]?
  | [], _ => rfl
  | _ :: _, 0 => rfl
  | _ :: l, i + 1 => xU l i
section
variable {P : Program} {n : Nat} {ds : List Deferred} {l : Env} {w : World} {d : Option Tmp} {ty : TypeId} {ps : String} {af : Array Edge} {g : Option (Nat × Bool)} {T t B o : Nat}
theorem PEv.fB {S i : Nat} (off : Nat) {fs : Array Field} {f : Field} [q : Tu P S] (hx : lk l t = some (.eq (.pointer (some ⟨B, o, none⟩)))) (hu : q.u = .struct fs := by exact rfl) (hf : nF fs.toList i = some f := by exact rfl) {T1 : TypeId} (ht : f.type = T1 := by exact rfl) [r : Ts P T1] (ho : f.offset = off := by exact rfl) (hk : Nat.beq r.k 0 = false := by exact rfl) : PEv P n ds l w ⟨d, .fieldAddr S (.tmp t) i, ty, ps, af, g⟩ (.pointer (some ⟨B, o + off, none⟩)) := .fA off (hu ▸ q.e) (by rw [xU] at hf; simpa using hf) (ht ▸ r.e) hx ho hk
theorem PEv.lb {ad : Addr} {v : Value} [q : Ta P T] (hx : lk l t = some (.eq (.pointer (some ad)))) (hc : w.cell? ad = some v) (hb : q.b = false := by exact rfl) : PEv P n ds l w ⟨d, .load T (.tmp t), ty, ps, af, g⟩ v := .ld (hb ▸ q.e) hx hc
theorem PEv.lc {cs : Array Value} [q : Ta P T] [r : Ts P T] (hx : lk l t = some (.eq (.pointer (some ⟨B, o, none⟩)))) (hc : AggAt w B o cs) (hb : q.b = true := by exact rfl) (hk : cs.size = r.k := by exact rfl) : PEv P n ds l w ⟨d, .load T (.tmp t), ty, ps, af, g⟩ (.agg cs) := .la (hb ▸ q.e) r.e hx hc hk
end
section
variable {P : Program} {n : Nat} {l : Env} {w : World} {fn : Func} {Post : Value → World → Prop}
theorem KW.q {t : Tmp} {v : Value} (h : Post v w) (hr : fn.results = #[.tmp t] := by exact rfl) (hv : lk l t = some (.eq v) := by exact rfl) : KW n [] (bodyPost P fn (fun e w' => ∃ v, e = .returned v ∧ Post v w') .ret) l w  := rZ hr hv ⟨_, rfl, h⟩
end
section
variable {P : Program} {n : Nat} {ds : List Deferred} {l : Env} {w : World} {d : Option Tmp} {ty : TypeId} {ps : String} {af : Array Edge} {g : Option (Nat × Bool)} {T T' : TypeId} {t t' : Nat} {v : Value}
theorem Vals.ct {xs : List Operand} {vs : List Value} (h : lk l t = some (.eq v)) (r : Vals l xs vs) : Vals l (.tmp t :: xs) (v :: vs) := Vals.cons (.tmp h) r
theorem Vals.cu (h : lk l t = some (.eq v)) : Vals l [.tmp t] [v] := Vals.cons (.tmp h) .nil
theorem Parts.ct {i : Nat} {xs : List (Nat × Operand)} {vs : List (Nat × Value)} (h : lk l t = some (.eq v)) (r : Parts l xs vs) : Parts l ((i, .tmp t) :: xs) ((i, v) :: vs) := Parts.cons (.tmp h) r
theorem Parts.cu {i : Nat} (h : lk l t = some (.eq v)) : Parts l [(i, .tmp t)] [(i, v)] := Parts.cons (.tmp h) .nil
theorem PEv.mv (h : lk l t = some (.eq v)) : PEv P n ds l w ⟨d, .move (.tmp t), ty, ps, af, g⟩ v := .move (.tmp h)
theorem PEv.xt {i : Nat} {vs : Array Value} (h : lk l t = some (.eq (.tuple vs))) (hn : nth vs.toList i = some v) : PEv P n ds l w ⟨d, .extract (.tmp t) i, ty, ps, af, g⟩ v := .extract (.tmp h) hn
theorem REv.bA {cs : Array Value} (h : lk l t = some (.eq (.agg cs))) : REv P n ds l w ⟨d, .box T (.tmp t), ty, ps, af, g⟩ (aN w cs T) := .IJ (.tmp h)
theorem PEv.ic {k : Nat} (h : lk l t = some (.eq (.int .i64 (k : Int)))) (hk : k < 9223372036854775807) : PEv P n ds l w ⟨d, .binOp .add T (.tmp t) (.const (.int .i64 1)) T', ty, ps, af, g⟩ (.int .i64 ((k + 1 : Nat) : Int)) := .inc (.tmp h) hk
theorem PEv.nc {ad : Addr} (h : lk l t = some (.eq (.pointer (some ad)))) : PEv P n ds l w ⟨d, .nilCheck (.tmp t), ty, ps, af, g⟩ (.pointer (some ad)) := .nilCheck (.tmp h)
theorem PEv.l2 {k : IntKind} {i j : Int} (h : lk l t = some (.eq (.int k i))) (h' : lk l t' = some (.eq (.int k j))) : PEv P n ds l w ⟨d, .binOp .lss T (.tmp t) (.tmp t') T', ty, ps, af, g⟩ (.bool (decide (i < j))) := .lss (.tmp h) (.tmp h')
theorem PEv.n1 {p : Bool} (h : lk l t = some (.eq (.bool p))) : PEv P n ds l w ⟨d, .unOp .not T (.tmp t), ty, ps, af, g⟩ (.bool !p) := .not (.tmp h)
theorem PEv.pa {x : Operand} {p b : Bool} (h : lk l t = some (.eq (.bool p))) (hx : p = true → Val l x (.bool b)) : PEv P n ds l w ⟨d, .pick (.tmp t) x (.const (.bool false)), ty, ps, af, g⟩ (.bool (p && b)) := .Ei (.tmp h) hx
theorem PEv.po {y : Operand} {p b : Bool} (h : lk l t = some (.eq (.bool p))) (hy : p = false → Val l y (.bool b)) : PEv P n ds l w ⟨d, .pick (.tmp t) (.const (.bool true)) y, ty, ps, af, g⟩ (.bool (p || b)) := .E1 (.tmp h) hy
end
section
variable {R : Option Nat} {m : Nat} {P : Program} {n : Nat} {ds : List Deferred} {Q : Exit → Go.Act → World → Prop} {l : Env} {w : World} {t : Nat} {x y : Code}
theorem CW.b {p : Bool} (h : lk l t = some (.eq (.bool p))) (ht : p = true → CW R m P n ds x Q l w) (hf : p = false → CW R m P n ds y Q l w) : CW R m P n ds (.cond (.tmp t) x y) Q l w := CW.cond (.tmp h) ht hf
theorem CW.f (h : lk l t = some (.eq (.bool false))) (k : CW R m P n ds y Q l w) : CW R m P n ds (.cond (.tmp t) x y) Q l w := Ub (.tmp h) k
theorem CW.v (h : lk l t = some (.eq (.bool true))) (k : CW R m P n ds x Q l w) : CW R m P n ds (.cond (.tmp t) x y) Q l w := Wk (.tmp h) k
def gq (l : Env) (o : Oper) (ops : Array Oper) (n : Nat) : Option (Bool × Bool × Nat) :=
  match o.guard with
  | some (j, want) => match ops[j]? with
    | some oj => match oj.dst with
      | some dj => match o.dst with
        | some d => match lk l dj with
          | some (.eq (.bool b)) => match Nat.ble (dj + 1) n with
            | true => match Nat.ble (d + 1) n with
              | true => some (want, b, d)
              | false => none
            | false => none
          | _ => none
        | none => none
      | none => none
    | none => none
  | none => none
theorem yW {o : Oper} {ops : Array Oper} {want b : Bool} {d : Nat} (h : gq l o ops n = some (want, b, d)) : ∃ j dj oj, o.guard = some (j, want) ∧ ops[j]? = some oj ∧ oj.dst = some dj ∧ Nat.ble (dj + 1) n = true ∧ lk l dj = some (.eq (.bool b)) ∧ o.dst = some d ∧ Nat.ble (d + 1) n = true := by
  unfold gq at h
  repeat' split at h
  all_goals cases h
  exact ⟨_, _, _, ‹_›, ‹_›, ‹_›, ‹_›, ‹_›, ‹_›, ‹_›⟩
theorem LW.gr {ops : Array Oper} {o : Oper} {rest : List Oper} {want b : Bool} {d : Nat} {v : Value} (h : gq l o ops n = some (want, b, d)) (h1 : (b == want) = true → PEv P n ds l w o v) (k : LW R m P n ds ops Q rest ((d, .cond (b == want) v) :: l) w) : LW R m P n ds ops Q (o :: rest) l w := by
  obtain ⟨j, dj, oj, a1, a2, a3, a4, a5, a6, a7⟩ := yW h
  exact II a1 a2 a3 a4 a5 a6 a7 h1 k
theorem Fk {dt : Option Tmp} {ty : TypeId} {ps : String} {af : Array Edge} {g : Option (Nat × Bool)} {ops : Array Oper} {rest : List Oper} {want b : Bool} {d : Nat} {v : Value} (h : gq l ⟨dt, .move (.tmp t), ty, ps, af, g⟩ ops n = some (want, b, d)) (h1 : lk l t = some (.eq v)) (k : LW R m P n ds ops Q rest ((d, .cond (b == want) v) :: l) w) : LW R m P n ds ops Q (⟨dt, .move (.tmp t), ty, ps, af, g⟩ :: rest) l w := LW.gr h (fun _ => .move (.tmp h1)) k
end
section
variable {S0 : Nat → Prop} {w0 w : World} {B : Nat} {cs : Array Value} {T : TypeId} {a b c d e f : Asr} {X : List Asr}
theorem Sep.b0 (h : Wx.Sep S0 w0 w (Cc B cs T :: X)) : Blk w B cs T := Sep.blk h 0 rfl
theorem Sep.b1 (h : Wx.Sep S0 w0 w (a :: Cc B cs T :: X)) : Blk w B cs T := Sep.blk h 1 rfl
theorem Sep.b2 (h : Wx.Sep S0 w0 w (a :: b :: Cc B cs T :: X)) : Blk w B cs T := Sep.blk h 2 rfl
theorem Sep.b3 (h : Wx.Sep S0 w0 w (a :: b :: c :: Cc B cs T :: X)) : Blk w B cs T := Sep.blk h 3 rfl
theorem Sep.b4 (h : Wx.Sep S0 w0 w (a :: b :: c :: d :: Cc B cs T :: X)) : Blk w B cs T := Sep.blk h 4 rfl
theorem Sep.b5 (h : Wx.Sep S0 w0 w (a :: b :: c :: d :: e :: Cc B cs T :: X)) : Blk w B cs T := Sep.blk h 5 rfl
end
theorem cT {P : Program} {w : World} (n : Nat) {f : FuncId} {fn : Func} {c : Code} {args : List Value} {R : Ending → World → Prop} (hf : P.funcs[f]? = some fn) (hb : fn.body = some c) (h : CW none 9 P n [] c (bodyPost P fn R) (Hq args 0) w) (hn : fn.ntmps = n := by exact rfl) (hl : Nat.ble args.length n = true := by exact rfl) : Calls P f args.toArray w R := P9 hf hb hn hl h
theorem W0 (w : World) : ∃ w0, w0 = w ∧ Wx.Sep no w0 w0 [] := ⟨w, rfl, Sep.start no w⟩
theorem wQ {l : Env} {x : Operand} {v : Value} (h : Val l x v := by first | exact .const _ | exact .tmp rfl | exact .cond rfl (by first | assumption | (rw [hp]; rfl) | (rw [hc, hp]; rfl) | simp_all)) : Val l x v := h
end Go.Wx
namespace Go
theorem bQ {a b : Nat} (h : Nat.ble a b = true := by exact rfl) : a ≤ b := Nat.le_of_ble_eq_true h
theorem tQ {p : Prop} (h : p := by repeat' (first | exact trivial | refine ⟨rfl, ?_⟩)) : p := h
theorem uQ {p : Prop} (h : p := by repeat' (first | exact trivial | refine ⟨Wx.PhU.eq _, ?_⟩)) : p := h
end Go
namespace Go.Proofs
open Go.Wx
open Go.Proofs.Tryz
instance : Ta prog 3 := ⟨_, isAgg3⟩
instance : Ta prog 4 := ⟨_, isAgg4⟩
instance : Ta prog 9 := ⟨_, isAgg9⟩
instance : Ta prog 25 := ⟨_, isAgg25⟩
instance : Ta prog 28 := ⟨_, isAgg28⟩
instance : Ta prog 29 := ⟨_, isAgg29⟩
instance : Ta prog 32 := ⟨_, isAgg32⟩
instance : Ta prog 34 := ⟨_, isAgg34⟩
instance : Ta prog 39 := ⟨_, isAgg39⟩
instance : Ta prog 40 := ⟨_, isAgg40⟩
instance : Ta prog 44 := ⟨_, isAgg44⟩
instance : Ta prog 50 := ⟨_, isAgg50⟩
instance : Ta prog 81 := ⟨_, isAgg81⟩
instance : Ta prog 82 := ⟨_, isAgg82⟩
instance : Ta prog 83 := ⟨_, isAgg83⟩
instance : Ta prog 85 := ⟨_, isAgg85⟩
instance : Ta prog 87 := ⟨_, isAgg87⟩
instance : Ta prog 89 := ⟨_, isAgg89⟩
instance : Ta prog 92 := ⟨_, isAgg92⟩
instance : Ta prog 94 := ⟨_, isAgg94⟩
instance : Ta prog 99 := ⟨_, isAgg99⟩
instance : Ta prog 101 := ⟨_, isAgg101⟩
instance : Ta prog 102 := ⟨_, isAgg102⟩
instance : Ta prog 104 := ⟨_, isAgg104⟩
instance : Ta prog 105 := ⟨_, isAgg105⟩
instance : Ta prog 117 := ⟨_, isAgg117⟩
instance : Ta prog 119 := ⟨_, isAgg119⟩
instance : Ta prog 123 := ⟨_, isAgg123⟩
instance : Ta prog 134 := ⟨_, isAgg134⟩
instance : Ta prog 135 := ⟨_, isAgg135⟩
instance : Ta prog 143 := ⟨_, isAgg143⟩
instance : Ta prog 211 := ⟨_, isAgg211⟩
instance : Ta prog 212 := ⟨_, isAgg212⟩
instance : Ta prog 213 := ⟨_, isAgg213⟩
instance : Ta prog 221 := ⟨_, isAgg221⟩
instance : Ta prog 277 := ⟨_, isAgg277⟩
instance : Ta prog 293 := ⟨_, isAgg293⟩
instance : Ta prog 308 := ⟨_, isAgg308⟩
instance : Ta prog 310 := ⟨_, isAgg310⟩
instance : Ta prog 361 := ⟨_, isAgg361⟩
instance : Ta prog 362 := ⟨_, isAgg362⟩
instance : Ta prog 429 := ⟨_, isAgg429⟩
instance : Ts prog 3 := ⟨_, sizeOf3⟩
instance : Ts prog 4 := ⟨_, sizeOf4⟩
instance : Ts prog 9 := ⟨_, sizeOf9⟩
instance : Ts prog 25 := ⟨_, sizeOf25⟩
instance : Ts prog 28 := ⟨_, sizeOf28⟩
instance : Ts prog 29 := ⟨_, sizeOf29⟩
instance : Ts prog 34 := ⟨_, sizeOf34⟩
instance : Ts prog 39 := ⟨_, sizeOf39⟩
instance : Ts prog 44 := ⟨_, sizeOf44⟩
instance : Ts prog 50 := ⟨_, sizeOf50⟩
instance : Ts prog 81 := ⟨_, sizeOf81⟩
instance : Ts prog 82 := ⟨_, sizeOf82⟩
instance : Ts prog 83 := ⟨_, sizeOf83⟩
instance : Ts prog 85 := ⟨_, sizeOf85⟩
instance : Ts prog 87 := ⟨_, sizeOf87⟩
instance : Ts prog 89 := ⟨_, sizeOf89⟩
instance : Ts prog 92 := ⟨_, sizeOf92⟩
instance : Ts prog 94 := ⟨_, sizeOf94⟩
instance : Ts prog 99 := ⟨_, sizeOf99⟩
instance : Ts prog 101 := ⟨_, sizeOf101⟩
instance : Ts prog 102 := ⟨_, sizeOf102⟩
instance : Ts prog 104 := ⟨_, sizeOf104⟩
instance : Ts prog 105 := ⟨_, sizeOf105⟩
instance : Ts prog 117 := ⟨_, sizeOf117⟩
instance : Ts prog 119 := ⟨_, sizeOf119⟩
instance : Ts prog 123 := ⟨_, sizeOf123⟩
instance : Ts prog 134 := ⟨_, sizeOf134⟩
instance : Ts prog 135 := ⟨_, sizeOf135⟩
instance : Ts prog 143 := ⟨_, sizeOf143⟩
instance : Ts prog 212 := ⟨_, sizeOf212⟩
instance : Ts prog 213 := ⟨_, sizeOf213⟩
instance : Ts prog 215 := ⟨_, sizeOf215⟩
instance : Ts prog 221 := ⟨_, sizeOf221⟩
instance : Ts prog 308 := ⟨_, sizeOf308⟩
instance : Ts prog 310 := ⟨_, sizeOf310⟩
instance : Tu prog 28 := ⟨_, underlying28⟩
instance : Tu prog 39 := ⟨_, underlying39⟩
instance : Tu prog 44 := ⟨_, underlying44⟩
instance : Tu prog 50 := ⟨_, underlying50⟩
instance : Tu prog 81 := ⟨_, underlying81⟩
instance : Tu prog 85 := ⟨_, underlying85⟩
instance : Tu prog 87 := ⟨_, underlying87⟩
instance : Tu prog 89 := ⟨_, underlying89⟩
instance : Tu prog 92 := ⟨_, underlying92⟩
instance : Tu prog 94 := ⟨_, underlying94⟩
instance : Tu prog 101 := ⟨_, underlying101⟩
instance : Tu prog 107 := ⟨_, underlying107⟩
instance : Tu prog 119 := ⟨_, underlying119⟩
instance : Tu prog 123 := ⟨_, underlying123⟩
instance : Tu prog 137 := ⟨_, underlying137⟩
instance : Tu prog 215 := ⟨_, underlying215⟩
instance : Tu prog 217 := ⟨_, underlying217⟩
instance : Tu prog 223 := ⟨_, underlying223⟩
instance : Tu prog 237 := ⟨_, underlying237⟩
instance : Tu prog 246 := ⟨_, underlying246⟩
instance : Tu prog 310 := ⟨_, underlying310⟩
instance : Tu prog 365 := ⟨_, underlying365⟩
end Go.Proofs
namespace Go.Wx
structure Rt where
 n : Int
 d : Int
def Rt.cells (a : Rt) : Array Go.Value := #[vi a.n, vi a.d]
theorem Rt.one (a : Rt) : a.cells.all (·.oneCell') = true := by simp [Rt.cells, Value.oneCell']
def Dr (n d : Int) : Nat := Nat.gcd n.natAbs d.natAbs
structure Rt.ok (a : Rt) : Prop where
 pos : 0 < a.d
 den : a.d ≤ 1000000000
 num : a.n.natAbs ≤ 1000000000
 co : Dr a.n a.d = 1
def Bu (n d : Int) : Rt := ⟨if n < 0 then -((n.natAbs / Dr n d : Nat) : Int) else ((n.natAbs / Dr n d : Nat) : Int), ((d.natAbs / Dr n d : Nat) : Int)⟩
def Oe (n d : Int) : Bool := decide (n.natAbs / Dr n d ≤ 1000000000 ∧ d.natAbs / Dr n d ≤ 1000000000)
def HA : Rt := ⟨0, 0⟩
def La (n d : Int) : Rt × Int := if Oe n d = true then (Bu n d, 0) else (HA, 30)
theorem Lg {n d : Int} (hd : 0 < d) : 0 < Dr n d := Nat.gcd_pos_of_pos_right _ oQ
theorem I8 {n d : Int} (hd : 0 < d) : 0 < (Bu n d).d := by
 show (0 : Int) < ((d.natAbs / Dr n d : Nat) : Int)
 have h1 : Dr n d ∣ d.natAbs := Nat.gcd_dvd_right _ _
 have := Nat.div_pos (Nat.le_of_dvd oQ h1) (Lg (n := n) hd)
 omega
theorem bE (n d : Int) : (Bu n d).n.natAbs = n.natAbs / Dr n d := by
 show (if n < 0 then -((n.natAbs / Dr n d : Nat) : Int) else ((n.natAbs / Dr n d : Nat) : Int)).natAbs = _
 generalize n.natAbs / Dr n d = x
 split <;> omega
theorem fH (n d : Int) : (Bu n d).d.natAbs = d.natAbs / Dr n d := by
 show ((d.natAbs / Dr n d : Nat) : Int).natAbs = _
 generalize d.natAbs / Dr n d = x
 omega
theorem Of {n d : Int} (hd : 0 < d) : Dr (Bu n d).n (Bu n d).d = 1 := by
 unfold Dr
 rw [bE, fH]
 exact Nat.coprime_div_gcd_div_gcd (Lg (n := n) hd)
theorem Gd {n d : Int} (hd : 0 < d) : (Bu n d).n * d = n * (Bu n d).d := by
 have h1 : n.natAbs / Dr n d * Dr n d = n.natAbs := Nat.div_mul_cancel (Nat.gcd_dvd_left _ _)
 have h2 : d.natAbs / Dr n d * Dr n d = d.natAbs := Nat.div_mul_cancel (Nat.gcd_dvd_right _ _)
 show (if n < 0 then -((n.natAbs / Dr n d : Nat) : Int) else ((n.natAbs / Dr n d : Nat) : Int)) * d = n * ((d.natAbs / Dr n d : Nat) : Int)
 generalize n.natAbs / Dr n d = x at *
 generalize d.natAbs / Dr n d = y at *
 generalize Dr n d = g at *
 have e2 : d = ((y * g : Nat) : Int) := by rw [h2]; omega
 have key : (x : Int) * ((y * g : Nat) : Int) = ((x * g : Nat) : Int) * (y : Int) := by
   push_cast; ac_rfl
 rw [e2]
 split
 · rename_i hneg
   have e1 : n = -((x * g : Nat) : Int) := by rw [h1]; omega
   rw [e1, Int.neg_mul, Int.neg_mul, key]
 rename_i hneg
 have e1 : n = ((x * g : Nat) : Int) := by rw [h1]; omega
 rw [e1, key]
theorem fI {a b : Rt} (ha : 0 < a.d) (hb : 0 < b.d) (ga : Dr a.n a.d = 1) (gb : Dr b.n b.d = 1) (h : a.n * b.d = b.n * a.d) : a = b := by
 have hn : a.n.natAbs * b.d.natAbs = b.n.natAbs * a.d.natAbs := by rw [← Int.natAbs_mul, ← Int.natAbs_mul, h]
 have h1 : a.d.natAbs ∣ b.d.natAbs := by
   have : a.d.natAbs ∣ a.n.natAbs * b.d.natAbs := by rw [hn]; exact Nat.dvd_mul_left _ _
   exact (Nat.Coprime.symm ga).dvd_of_dvd_mul_left this
 have h2 : b.d.natAbs ∣ a.d.natAbs := by
   have : b.d.natAbs ∣ b.n.natAbs * a.d.natAbs := by rw [← hn]; exact Nat.dvd_mul_left _ _
   exact (Nat.Coprime.symm gb).dvd_of_dvd_mul_left this
 have hd := Nat.dvd_antisymm h1 h2
 obtain ⟨an, ad⟩ := a
 obtain ⟨bn, bd⟩ := b
 dsimp only at *
 have e : ad = bd := by omega
 subst e
 have := Int.eq_of_mul_eq_mul_right oQ h
 rw [this]
theorem Q3 {u v u' v' : Int} (hv : 0 < v) (hv' : 0 < v') (h : u * v' = u' * v) : Bu u v = Bu u' v' := by
 refine fI (I8 hv) (I8 hv') (Of hv) (Of hv') ?_
 have h1 := Gd (n := u) hv
 have h2 := Gd (n := u') hv'
 generalize Bu u v = a at *
 generalize Bu u' v' = b at *
 have hvv : v * v' ≠ 0 := Int.mul_ne_zero oQ oQ
 refine Int.eq_of_mul_eq_mul_right hvv ?_
 calc a.n * b.d * (v * v') = (a.n * v) * (b.d * v') := by ac_rfl
   _ = (u * a.d) * (b.d * v') := by rw [h1]
   _ = (u * v') * (a.d * b.d) := by ac_rfl
   _ = (u' * v) * (a.d * b.d) := by rw [h]
   _ = (u' * b.d) * (a.d * v) := by ac_rfl
   _ = (b.n * v') * (a.d * v) := by rw [h2]
   _ = b.n * a.d * (v * v') := by ac_rfl
theorem fJ {n d : Int} (hd : 0 < d) (h : Oe n d = true) : (Bu n d).ok := by
 have h := of_decide_eq_true h
 refine ⟨I8 hd, ?_, by rw [bE]; exact h.1, Of hd⟩
 show ((d.natAbs / Dr n d : Nat) : Int) ≤ 1000000000
 omega
theorem Hd {n d : Int} (hn : n.natAbs ≤ 1000000000) (hd : d.natAbs ≤ 1000000000) : Oe n d = true :=
 decide_eq_true ⟨Nat.le_trans (Nat.div_le_self _ _) hn, Nat.le_trans (Nat.div_le_self _ _) hd⟩
theorem Hy {n d : Int} (h : Oe n d = true) : La n d = (Bu n d, 0) := if_pos h
theorem fK {u v u' v' : Int} (hv : 0 < v) (hv' : 0 < v') (h : u * v' = u' * v) (hf : Oe u' v' = true) : Oe u v = true := by
 have e := Q3 hv hv' h
 have hf := of_decide_eq_true hf
 refine decide_eq_true ?_
 rw [← bE, ← fH] at hf ⊢
 rw [e]; exact hf
theorem Et (a b : Nat) : Nat.gcd a b = Nat.gcd b (a % b) := by rw [Nat.gcd_comm a b, Nat.gcd_rec b a, Nat.gcd_comm]
theorem abs_neg {i : Int} (hi : J1 i) (h : i < 0) : IntKind.u64.wrap (-(IntKind.u64.wrap i)) = (i.natAbs : Int) := by
 obtain ⟨h1, h2⟩ := hi
 rw [E3, E3]
 omega
theorem sM {i : Int} (hi : J1 i) (h : 0 ≤ i) : IntKind.u64.wrap i = (i.natAbs : Int) := by
 obtain ⟨h1, h2⟩ := hi
 rw [E3]
 omega
theorem PEv.vl {P : Program} {n : Nat} {ds : List Deferred} {l : Env} {w : World} {o : Oper} {v v' : Go.Value} (h : PEv P n ds l w o v) (e : v = v') : PEv P n ds l w o v' := e ▸ h
theorem HB (a b : Nat) (hb : (a : Int) < 18446744073709551616) : Go.Value.int .u64 (IntKind.u64.wrap ((a : Int).tdiv (b : Int))) = vu (a / b) := by
 have e : (a : Int).tdiv (b : Int) = ((a / b : Nat) : Int) := rfl
 have h := Nat.div_le_self a b
 rw [e]
 generalize a / b = q at *
 rw [E3, Int.emod_eq_of_lt oQ (by omega)]; rfl
theorem xV {a : Nat} (h : a ≤ 1000000000) : Go.Value.int .i64 (IntKind.i64.wrap ((a : Nat) : Int)) = vi (a : Int) := by
 rw [Ce oQ (by omega)]
theorem sN {a b : Nat} (h : ¬ (1000000000 : Int) < (if (a : Int) < (b : Int) then (b : Int) else (a : Int))) : a ≤ 1000000000 ∧ b ≤ 1000000000 := by
 split at h <;> omega
theorem mX {a b : Nat} (h : (1000000000 : Int) < (if (a : Int) < (b : Int) then (b : Int) else (a : Int))) : ¬ (a ≤ 1000000000 ∧ b ≤ 1000000000) := by
 split at h <;> omega
theorem yX {n d : Int} (h : ¬ (n.natAbs / Dr n d ≤ 1000000000 ∧ d.natAbs / Dr n d ≤ 1000000000)) : La n d = (HA, 30) := if_neg (fun e => h (of_decide_eq_true e))
theorem sO {n d : Int} (h : n.natAbs / Dr n d ≤ 1000000000 ∧ d.natAbs / Dr n d ≤ 1000000000) (hn : n < 0) : La n d = (⟨-((n.natAbs / Dr n d : Nat) : Int), ((d.natAbs / Dr n d : Nat) : Int)⟩, 0) := by
 rw [Hy (decide_eq_true h)]
 unfold Bu
 rw [if_pos hn]
theorem sP {n d : Int} (h : n.natAbs / Dr n d ≤ 1000000000 ∧ d.natAbs / Dr n d ≤ 1000000000) (hn : ¬ n < 0) : La n d = (⟨((n.natAbs / Dr n d : Nat) : Int), ((d.natAbs / Dr n d : Nat) : Int)⟩, 0) := by
 rw [Hy (decide_eq_true h)]
 unfold Bu
 rw [if_neg hn]
section
variable {P : Program} {n : Nat} {ds : List Deferred} {l : Env} {w : World} {d : Option Tmp} {ty : TypeId} {ps : String} {af : Array Edge} {g : Option (Nat × Bool)}
theorem PEv.HC {x y : Operand} {ts : Array TypeId} {i j : Int} (hx : Val l x (.int .u64 i)) (hy : Val l y (.int .u64 j)) :
   PEv P n ds l w ⟨d, .call { callee := .builtin .max, args := #[x, y], argTypes := ts }, ty, ps, af, g⟩ (.int .u64 (if i < j then j else i)) := fun a w' ha _ => by
 rw [BigFrame.execOp_builtin, BigFrame.builtin_max]
 refine Cm ?_
 have e : (#[x, y] : Array Operand).map a.eval = #[.int .u64 i, .int .u64 j] := by simp [ha.ev hx, ha.ev hy]
 rw [e]
 exact run_max_int2 w' _ _ _ _ _ _
end
theorem jA {x y : Int} (hx : x.natAbs ≤ 1000000000) (hy : y.natAbs ≤ 1000000000) : -1000000000000000000 ≤ x * y ∧ x * y ≤ 1000000000000000000 := by
 have h : (x * y).natAbs ≤ 1000000000 * 1000000000 := by rw [Int.natAbs_mul]; exact Nat.mul_le_mul hx hy
 omega
theorem Rt.ok.d' {a : Rt} (h : a.ok) : a.d.natAbs ≤ 1000000000 := by have h1 := h.pos; have h2 := h.den; omega
theorem Rt.ok.nI {a : Rt} (h : a.ok) : J1 a.n := by have h1 := h.num; exact ⟨by omega, by omega⟩
theorem Rt.ok.dI {a : Rt} (h : a.ok) : J1 a.d := by have h1 := h.pos; have h2 := h.den; exact ⟨by omega, by omega⟩
def addN (a b : Rt) : Int := a.n * b.d + b.n * a.d
theorem sR {a b : Rt} (ha : a.ok) (hb : b.ok) : -2000000000000000000 ≤ addN a b ∧ addN a b ≤ 2000000000000000000 := by
 have h1 := jA ha.num hb.d'
 have h2 := jA hb.num ha.d'
 unfold addN
 omega
theorem mY {a b : Rt} (ha : a.ok) (hb : b.ok) : 0 < a.d * b.d ∧ a.d * b.d ≤ 1000000000000000000 := ⟨Int.mul_pos ha.pos hb.pos, (jA ha.d' hb.d').2⟩
theorem JI {a b : Rt} (ha : a.ok) (hb : b.ok) : IntKind.i64.wrap (IntKind.i64.wrap (a.n * b.d) + IntKind.i64.wrap (b.n * a.d)) = addN a b := by
 have h1 := jA ha.num hb.d'
 have h2 := jA hb.num ha.d'
 rw [Ce (i := a.n * b.d) oQ oQ, Ce (i := b.n * a.d) oQ oQ, Ce oQ (by omega)]; rfl
theorem KI {a b : Rt} (ha : a.ok) (hb : b.ok) : IntKind.i64.wrap (a.d * b.d) = a.d * b.d := by
 have h := mY ha hb
 exact Ce oQ oQ
theorem fL (a : Rt) : (#[vi a.n, vi a.d] : Array Go.Value).size = 2 ∧ (#[vi a.n, vi a.d] : Array Go.Value).all (·.oneCell') = true := by simp [Value.oneCell']
theorem JJ {a : Nat} (h : a ≤ 1000000000) : IntKind.i64.wrap (-((a : Nat) : Int)) = -((a : Nat) : Int) := Ce oQ oQ
end Go.Wx
namespace Go.Proofs.YtgjogglfnkgapaaGreatDoor
open Go.Proofs.Tryz
open Go.Wx Go.RowKit
theorem mZ (B2 B3 : Nat) (w : World) : sF Tryz.prog 253 #[.pointer (some ⟨B2, 0, none⟩), .pointer (some ⟨B3, 0, none⟩)] w fun w' => Up w w' := by
 have hW := Up.refl w
 refine N7 (n := 16) (args := [.pointer (some ⟨B2, 0, none⟩), .pointer (some ⟨B3, 0, none⟩)]) func253 rfl rfl rfl (DW.seq (m := 9) (DW.region (mS (fun a => Qb) rfl rfl rfl (DL.p (Ui underlying315 zeroValue315 (.t rfl)) rfl rfl rfl (DL.p (PEv.mv rfl) rfl rfl rfl (DL.p (PEv.xt rfl rfl) rfl rfl rfl (DL.p (PEv.xt rfl rfl) rfl rfl rfl (DL.p (PEv.assign (.t rfl)) rfl rfl rfl (DL.p (PEv.assign (.t rfl)) rfl rfl rfl (DL.nil (Ac (Af (Ab rfl (Ab rfl (Da (Da (Da (I (.Ei (b := false) (.t rfl) (fun hp => absurd (show false = true from hp) cQ)) (Ai (CW.f rfl (Aj (C7 rfl ⟨_, rfl, ?_⟩))))))))))))))))))))))
 exact hW
theorem Kp (i : Int) (w : World) (hi : J1 i) : Ret prog 241 #[vi i] w fun r w' => r = vu i.natAbs ∧ Up w w' := by
 have hW := Up.refl w
 refine cT 10 func241 rfl (Af (Ay (Ao (Af (Ab rfl (I (.lss (.t rfl) (.const _)) (Ai (CW.b rfl (fun h4 => ?_) (fun h4 => ?_)))))))))
 ·replace h4 := dQ h4
  have hneg := h4
  refine Af (Ab rfl (I (.conv (k' := .u64) (by rw [underlying3]; rfl) underlying277 (.t rfl)) (I (.neg underlying277 (.t rfl)) (LW.A rfl (Ai (Ak (Ap (KW.q ?_))))))))
  exact ⟨congrArg (Go.Value.int .u64) (abs_neg hi hneg), hW⟩
 replace h4 := dQ h4
 have hpos := h4
 refine Aj (Ac (Af (Ab rfl (I (.conv (k' := .u64) (by rw [underlying3]; rfl) underlying277 (.t rfl)) (LW.A rfl (Ai (Ak (KW.q ?_))))))))
 exact ⟨congrArg (Go.Value.int .u64) (sM hi oQ), hW⟩
theorem fM (a b : Nat) (w : World) : Ret prog 240 #[vu a, vu b] w fun r w' => r = vu (Nat.gcd a b) ∧ Up w w' := by
 have hW := Up.refl w
 obtain ⟨w0, rfl, _⟩ := W0 w
 refine cT 12 func240 rfl (Af (Ay (Ao (An (A8 (σ := Nat × Nat) (fun s w => (Nat.gcd s.1 s.2 = Nat.gcd a b) ∧ (Up w0 w)) (fun s => [(0, .eq (vu s.1)), (1, .eq (vu s.2))]) ([(4, .eq _)]) (fun s => s.2) (a, b) ?_ tQ ?_)))))
 ·exact ⟨rfl, hW⟩
 rintro ⟨x, y⟩ w1 ⟨hg, hW⟩
 change CW _ _ _ _ _ _ _ ([(0, .eq (vu x)), (1, .eq (vu y))] ++ _) _
 refine Am (Af (Ab rfl (I (.neq (.t rfl) (.const _)) (Ai (CW.b rfl (fun h6 => ?_) (fun h6 => ?_))))))
 ·have hy0 : y ≠ 0 := by simpa using h6
  refine Aj (Ac (An (aV kQ rfl ?_)))
  obtain ⟨w2, hdr⟩ : ∃ W, W = w1.drew := ⟨_, rfl⟩
  have uw2 : Up w1 w2 := by rw [hdr]; exact Up.drew _
  rw [← hdr]
  replace hW := hW.up uw2
  refine AW.step (rs := [0, 1, 2]) kQ cQ ?_
  intro i hi
  simp only [List.mem_cons, List.mem_nil_iff, or_false] at hi
  rcases hi with rfl | rfl | rfl
  ·skip
   refine ⟨_, rfl, rfl, ?_⟩
   refine OW.p (PEv.mv rfl) rfl rfl (AW.step (rs := [1, 2]) kQ cQ ?_)
   intro i hi
   simp only [List.mem_cons, List.mem_nil_iff, or_false] at hi
   rcases hi with rfl | rfl
   ·skip
    refine ⟨_, rfl, rfl, ?_⟩
    refine OW.p (PEv.mv rfl) rfl rfl (AW.step (rs := [2, 4]) kQ cQ ?_)
    intro i hi
    simp only [List.mem_cons, List.mem_nil_iff, or_false] at hi
    rcases hi with rfl | rfl
    ·skip
     refine ⟨_, rfl, rfl, ?_⟩
     refine OW.p (PEv.mv rfl) rfl rfl (AW.step (rs := [3, 4]) kQ cQ ?_)
     intro i hi
     simp only [List.mem_cons, List.mem_nil_iff, or_false] at hi
     rcases hi with rfl | rfl
     ·skip
      refine ⟨_, rfl, rfl, ?_⟩
      refine OW.p (PEv.vl (v' := vu (x % y)) (PEv.rem (.t rfl) (.t rfl) oQ) (congrArg (Go.Value.int .u64) (by rfl))) rfl rfl (AW.step (rs := [4]) kQ cQ ?_)
      intro i hi
      obtain rfl := List.mem_singleton.1 hi
      refine ⟨_, rfl, rfl, ?_⟩
      refine OW.p (PEv.assign (.t rfl)) rfl rfl (AW.step (rs := [5]) kQ cQ ?_)
      intro i hi
      obtain rfl := List.mem_singleton.1 hi
      refine ⟨_, rfl, rfl, ?_⟩
      refine OW.p (PEv.assign (.t rfl)) rfl rfl (AW.done kQ (Ae (Ar ?_)))
      exact ⟨(y, x % y), ⟨by rw [← hg]; exact (Et x y).symm, hW⟩, tQ, by show x % y < y; exact Nat.mod_lt _ oQ⟩
     skip
     refine ⟨_, rfl, rfl, ?_⟩
     refine OW.p (PEv.assign (.t rfl)) rfl rfl (AW.step (rs := [3]) kQ cQ ?_)
     intro i hi
     obtain rfl := List.mem_singleton.1 hi
     refine ⟨_, rfl, rfl, ?_⟩
     refine OW.p (PEv.vl (v' := vu (x % y)) (PEv.rem (.t rfl) (.t rfl) oQ) (congrArg (Go.Value.int .u64) (by rfl))) rfl rfl (AW.step (rs := [5]) kQ cQ ?_)
     intro i hi
     obtain rfl := List.mem_singleton.1 hi
     refine ⟨_, rfl, rfl, ?_⟩
     refine OW.p (PEv.assign (.t rfl)) rfl rfl (AW.done kQ (Ae (Ar ?_)))
     exact ⟨(y, x % y), ⟨by rw [← hg]; exact (Et x y).symm, hW⟩, tQ, by show x % y < y; exact Nat.mod_lt _ oQ⟩
    skip
    refine ⟨_, rfl, rfl, ?_⟩
    refine OW.p (PEv.assign (.t rfl)) rfl rfl (AW.step (rs := [2]) kQ cQ ?_)
    intro i hi
    obtain rfl := List.mem_singleton.1 hi
    refine ⟨_, rfl, rfl, ?_⟩
    refine OW.p (PEv.mv rfl) rfl rfl (AW.step (rs := [3]) kQ cQ ?_)
    intro i hi
    obtain rfl := List.mem_singleton.1 hi
    refine ⟨_, rfl, rfl, ?_⟩
    refine OW.p (PEv.vl (v' := vu (x % y)) (PEv.rem (.t rfl) (.t rfl) oQ) (congrArg (Go.Value.int .u64) (by rfl))) rfl rfl (AW.step (rs := [5]) kQ cQ ?_)
    intro i hi
    obtain rfl := List.mem_singleton.1 hi
    refine ⟨_, rfl, rfl, ?_⟩
    refine OW.p (PEv.assign (.t rfl)) rfl rfl (AW.done kQ (Ae (Ar ?_)))
    exact ⟨(y, x % y), ⟨by rw [← hg]; exact (Et x y).symm, hW⟩, tQ, by show x % y < y; exact Nat.mod_lt _ oQ⟩
   skip
   refine ⟨_, rfl, rfl, ?_⟩
   refine OW.p (PEv.mv rfl) rfl rfl (AW.step (rs := [1]) kQ cQ ?_)
   intro i hi
   obtain rfl := List.mem_singleton.1 hi
   refine ⟨_, rfl, rfl, ?_⟩
   refine OW.p (PEv.mv rfl) rfl rfl (AW.step (rs := [3, 4]) kQ cQ ?_)
   intro i hi
   simp only [List.mem_cons, List.mem_nil_iff, or_false] at hi
   rcases hi with rfl | rfl
   ·skip
    refine ⟨_, rfl, rfl, ?_⟩
    refine OW.p (PEv.vl (v' := vu (x % y)) (PEv.rem (.t rfl) (.t rfl) oQ) (congrArg (Go.Value.int .u64) (by rfl))) rfl rfl (AW.step (rs := [4]) kQ cQ ?_)
    intro i hi
    obtain rfl := List.mem_singleton.1 hi
    refine ⟨_, rfl, rfl, ?_⟩
    refine OW.p (PEv.assign (.t rfl)) rfl rfl (AW.step (rs := [5]) kQ cQ ?_)
    intro i hi
    obtain rfl := List.mem_singleton.1 hi
    refine ⟨_, rfl, rfl, ?_⟩
    refine OW.p (PEv.assign (.t rfl)) rfl rfl (AW.done kQ (Ae (Ar ?_)))
    exact ⟨(y, x % y), ⟨by rw [← hg]; exact (Et x y).symm, hW⟩, tQ, by show x % y < y; exact Nat.mod_lt _ oQ⟩
   skip
   refine ⟨_, rfl, rfl, ?_⟩
   refine OW.p (PEv.assign (.t rfl)) rfl rfl (AW.step (rs := [3]) kQ cQ ?_)
   intro i hi
   obtain rfl := List.mem_singleton.1 hi
   refine ⟨_, rfl, rfl, ?_⟩
   refine OW.p (PEv.vl (v' := vu (x % y)) (PEv.rem (.t rfl) (.t rfl) oQ) (congrArg (Go.Value.int .u64) (by rfl))) rfl rfl (AW.step (rs := [5]) kQ cQ ?_)
   intro i hi
   obtain rfl := List.mem_singleton.1 hi
   refine ⟨_, rfl, rfl, ?_⟩
   refine OW.p (PEv.assign (.t rfl)) rfl rfl (AW.done kQ (Ae (Ar ?_)))
   exact ⟨(y, x % y), ⟨by rw [← hg]; exact (Et x y).symm, hW⟩, tQ, by show x % y < y; exact Nat.mod_lt _ oQ⟩
  ·skip
   refine ⟨_, rfl, rfl, ?_⟩
   refine OW.p (PEv.mv rfl) rfl rfl (AW.step (rs := [0, 2]) kQ cQ ?_)
   intro i hi
   simp only [List.mem_cons, List.mem_nil_iff, or_false] at hi
   rcases hi with rfl | rfl
   ·skip
    refine ⟨_, rfl, rfl, ?_⟩
    refine OW.p (PEv.mv rfl) rfl rfl (AW.step (rs := [2, 4]) kQ cQ ?_)
    intro i hi
    simp only [List.mem_cons, List.mem_nil_iff, or_false] at hi
    rcases hi with rfl | rfl
    ·skip
     refine ⟨_, rfl, rfl, ?_⟩
     refine OW.p (PEv.mv rfl) rfl rfl (AW.step (rs := [3, 4]) kQ cQ ?_)
     intro i hi
     simp only [List.mem_cons, List.mem_nil_iff, or_false] at hi
     rcases hi with rfl | rfl
     ·skip
      refine ⟨_, rfl, rfl, ?_⟩
      refine OW.p (PEv.vl (v' := vu (x % y)) (PEv.rem (.t rfl) (.t rfl) oQ) (congrArg (Go.Value.int .u64) (by rfl))) rfl rfl (AW.step (rs := [4]) kQ cQ ?_)
      intro i hi
      obtain rfl := List.mem_singleton.1 hi
      refine ⟨_, rfl, rfl, ?_⟩
      refine OW.p (PEv.assign (.t rfl)) rfl rfl (AW.step (rs := [5]) kQ cQ ?_)
      intro i hi
      obtain rfl := List.mem_singleton.1 hi
      refine ⟨_, rfl, rfl, ?_⟩
      refine OW.p (PEv.assign (.t rfl)) rfl rfl (AW.done kQ (Ae (Ar ?_)))
      exact ⟨(y, x % y), ⟨by rw [← hg]; exact (Et x y).symm, hW⟩, tQ, by show x % y < y; exact Nat.mod_lt _ oQ⟩
     skip
     refine ⟨_, rfl, rfl, ?_⟩
     refine OW.p (PEv.assign (.t rfl)) rfl rfl (AW.step (rs := [3]) kQ cQ ?_)
     intro i hi
     obtain rfl := List.mem_singleton.1 hi
     refine ⟨_, rfl, rfl, ?_⟩
     refine OW.p (PEv.vl (v' := vu (x % y)) (PEv.rem (.t rfl) (.t rfl) oQ) (congrArg (Go.Value.int .u64) (by rfl))) rfl rfl (AW.step (rs := [5]) kQ cQ ?_)
     intro i hi
     obtain rfl := List.mem_singleton.1 hi
     refine ⟨_, rfl, rfl, ?_⟩
     refine OW.p (PEv.assign (.t rfl)) rfl rfl (AW.done kQ (Ae (Ar ?_)))
     exact ⟨(y, x % y), ⟨by rw [← hg]; exact (Et x y).symm, hW⟩, tQ, by show x % y < y; exact Nat.mod_lt _ oQ⟩
    skip
    refine ⟨_, rfl, rfl, ?_⟩
    refine OW.p (PEv.assign (.t rfl)) rfl rfl (AW.step (rs := [2]) kQ cQ ?_)
    intro i hi
    obtain rfl := List.mem_singleton.1 hi
    refine ⟨_, rfl, rfl, ?_⟩
    refine OW.p (PEv.mv rfl) rfl rfl (AW.step (rs := [3]) kQ cQ ?_)
    intro i hi
    obtain rfl := List.mem_singleton.1 hi
    refine ⟨_, rfl, rfl, ?_⟩
    refine OW.p (PEv.vl (v' := vu (x % y)) (PEv.rem (.t rfl) (.t rfl) oQ) (congrArg (Go.Value.int .u64) (by rfl))) rfl rfl (AW.step (rs := [5]) kQ cQ ?_)
    intro i hi
    obtain rfl := List.mem_singleton.1 hi
    refine ⟨_, rfl, rfl, ?_⟩
    refine OW.p (PEv.assign (.t rfl)) rfl rfl (AW.done kQ (Ae (Ar ?_)))
    exact ⟨(y, x % y), ⟨by rw [← hg]; exact (Et x y).symm, hW⟩, tQ, by show x % y < y; exact Nat.mod_lt _ oQ⟩
   skip
   refine ⟨_, rfl, rfl, ?_⟩
   refine OW.p (PEv.mv rfl) rfl rfl (AW.step (rs := [0, 3]) kQ cQ ?_)
   intro i hi
   simp only [List.mem_cons, List.mem_nil_iff, or_false] at hi
   rcases hi with rfl | rfl
   ·skip
    refine ⟨_, rfl, rfl, ?_⟩
    refine OW.p (PEv.mv rfl) rfl rfl (AW.step (rs := [3, 4]) kQ cQ ?_)
    intro i hi
    simp only [List.mem_cons, List.mem_nil_iff, or_false] at hi
    rcases hi with rfl | rfl
    ·skip
     refine ⟨_, rfl, rfl, ?_⟩
     refine OW.p (PEv.vl (v' := vu (x % y)) (PEv.rem (.t rfl) (.t rfl) oQ) (congrArg (Go.Value.int .u64) (by rfl))) rfl rfl (AW.step (rs := [4]) kQ cQ ?_)
     intro i hi
     obtain rfl := List.mem_singleton.1 hi
     refine ⟨_, rfl, rfl, ?_⟩
     refine OW.p (PEv.assign (.t rfl)) rfl rfl (AW.step (rs := [5]) kQ cQ ?_)
     intro i hi
     obtain rfl := List.mem_singleton.1 hi
     refine ⟨_, rfl, rfl, ?_⟩
     refine OW.p (PEv.assign (.t rfl)) rfl rfl (AW.done kQ (Ae (Ar ?_)))
     exact ⟨(y, x % y), ⟨by rw [← hg]; exact (Et x y).symm, hW⟩, tQ, by show x % y < y; exact Nat.mod_lt _ oQ⟩
    skip
    refine ⟨_, rfl, rfl, ?_⟩
    refine OW.p (PEv.assign (.t rfl)) rfl rfl (AW.step (rs := [3]) kQ cQ ?_)
    intro i hi
    obtain rfl := List.mem_singleton.1 hi
    refine ⟨_, rfl, rfl, ?_⟩
    refine OW.p (PEv.vl (v' := vu (x % y)) (PEv.rem (.t rfl) (.t rfl) oQ) (congrArg (Go.Value.int .u64) (by rfl))) rfl rfl (AW.step (rs := [5]) kQ cQ ?_)
    intro i hi
    obtain rfl := List.mem_singleton.1 hi
    refine ⟨_, rfl, rfl, ?_⟩
    refine OW.p (PEv.assign (.t rfl)) rfl rfl (AW.done kQ (Ae (Ar ?_)))
    exact ⟨(y, x % y), ⟨by rw [← hg]; exact (Et x y).symm, hW⟩, tQ, by show x % y < y; exact Nat.mod_lt _ oQ⟩
   skip
   refine ⟨_, rfl, rfl, ?_⟩
   refine OW.p (PEv.vl (v' := vu (x % y)) (PEv.rem (.t rfl) (.t rfl) oQ) (congrArg (Go.Value.int .u64) (by rfl))) rfl rfl (AW.step (rs := [0]) kQ cQ ?_)
   intro i hi
   obtain rfl := List.mem_singleton.1 hi
   refine ⟨_, rfl, rfl, ?_⟩
   refine OW.p (PEv.mv rfl) rfl rfl (AW.step (rs := [4]) kQ cQ ?_)
   intro i hi
   obtain rfl := List.mem_singleton.1 hi
   refine ⟨_, rfl, rfl, ?_⟩
   refine OW.p (PEv.assign (.t rfl)) rfl rfl (AW.step (rs := [5]) kQ cQ ?_)
   intro i hi
   obtain rfl := List.mem_singleton.1 hi
   refine ⟨_, rfl, rfl, ?_⟩
   refine OW.p (PEv.assign (.t rfl)) rfl rfl (AW.done kQ (Ae (Ar ?_)))
   exact ⟨(y, x % y), ⟨by rw [← hg]; exact (Et x y).symm, hW⟩, tQ, by show x % y < y; exact Nat.mod_lt _ oQ⟩
  skip
  refine ⟨_, rfl, rfl, ?_⟩
  refine OW.p (PEv.mv rfl) rfl rfl (AW.step (rs := [0, 1]) kQ cQ ?_)
  intro i hi
  simp only [List.mem_cons, List.mem_nil_iff, or_false] at hi
  rcases hi with rfl | rfl
  ·skip
   refine ⟨_, rfl, rfl, ?_⟩
   refine OW.p (PEv.mv rfl) rfl rfl (AW.step (rs := [1]) kQ cQ ?_)
   intro i hi
   obtain rfl := List.mem_singleton.1 hi
   refine ⟨_, rfl, rfl, ?_⟩
   refine OW.p (PEv.mv rfl) rfl rfl (AW.step (rs := [3, 4]) kQ cQ ?_)
   intro i hi
   simp only [List.mem_cons, List.mem_nil_iff, or_false] at hi
   rcases hi with rfl | rfl
   ·skip
    refine ⟨_, rfl, rfl, ?_⟩
    refine OW.p (PEv.vl (v' := vu (x % y)) (PEv.rem (.t rfl) (.t rfl) oQ) (congrArg (Go.Value.int .u64) (by rfl))) rfl rfl (AW.step (rs := [4]) kQ cQ ?_)
    intro i hi
    obtain rfl := List.mem_singleton.1 hi
    refine ⟨_, rfl, rfl, ?_⟩
    refine OW.p (PEv.assign (.t rfl)) rfl rfl (AW.step (rs := [5]) kQ cQ ?_)
    intro i hi
    obtain rfl := List.mem_singleton.1 hi
    refine ⟨_, rfl, rfl, ?_⟩
    refine OW.p (PEv.assign (.t rfl)) rfl rfl (AW.done kQ (Ae (Ar ?_)))
    exact ⟨(y, x % y), ⟨by rw [← hg]; exact (Et x y).symm, hW⟩, tQ, by show x % y < y; exact Nat.mod_lt _ oQ⟩
   skip
   refine ⟨_, rfl, rfl, ?_⟩
   refine OW.p (PEv.assign (.t rfl)) rfl rfl (AW.step (rs := [3]) kQ cQ ?_)
   intro i hi
   obtain rfl := List.mem_singleton.1 hi
   refine ⟨_, rfl, rfl, ?_⟩
   refine OW.p (PEv.vl (v' := vu (x % y)) (PEv.rem (.t rfl) (.t rfl) oQ) (congrArg (Go.Value.int .u64) (by rfl))) rfl rfl (AW.step (rs := [5]) kQ cQ ?_)
   intro i hi
   obtain rfl := List.mem_singleton.1 hi
   refine ⟨_, rfl, rfl, ?_⟩
   refine OW.p (PEv.assign (.t rfl)) rfl rfl (AW.done kQ (Ae (Ar ?_)))
   exact ⟨(y, x % y), ⟨by rw [← hg]; exact (Et x y).symm, hW⟩, tQ, by show x % y < y; exact Nat.mod_lt _ oQ⟩
  skip
  refine ⟨_, rfl, rfl, ?_⟩
  refine OW.p (PEv.mv rfl) rfl rfl (AW.step (rs := [0, 3]) kQ cQ ?_)
  intro i hi
  simp only [List.mem_cons, List.mem_nil_iff, or_false] at hi
  rcases hi with rfl | rfl
  ·skip
   refine ⟨_, rfl, rfl, ?_⟩
   refine OW.p (PEv.mv rfl) rfl rfl (AW.step (rs := [3, 4]) kQ cQ ?_)
   intro i hi
   simp only [List.mem_cons, List.mem_nil_iff, or_false] at hi
   rcases hi with rfl | rfl
   ·skip
    refine ⟨_, rfl, rfl, ?_⟩
    refine OW.p (PEv.vl (v' := vu (x % y)) (PEv.rem (.t rfl) (.t rfl) oQ) (congrArg (Go.Value.int .u64) (by rfl))) rfl rfl (AW.step (rs := [4]) kQ cQ ?_)
    intro i hi
    obtain rfl := List.mem_singleton.1 hi
    refine ⟨_, rfl, rfl, ?_⟩
    refine OW.p (PEv.assign (.t rfl)) rfl rfl (AW.step (rs := [5]) kQ cQ ?_)
    intro i hi
    obtain rfl := List.mem_singleton.1 hi
    refine ⟨_, rfl, rfl, ?_⟩
    refine OW.p (PEv.assign (.t rfl)) rfl rfl (AW.done kQ (Ae (Ar ?_)))
    exact ⟨(y, x % y), ⟨by rw [← hg]; exact (Et x y).symm, hW⟩, tQ, by show x % y < y; exact Nat.mod_lt _ oQ⟩
   skip
   refine ⟨_, rfl, rfl, ?_⟩
   refine OW.p (PEv.assign (.t rfl)) rfl rfl (AW.step (rs := [3]) kQ cQ ?_)
   intro i hi
   obtain rfl := List.mem_singleton.1 hi
   refine ⟨_, rfl, rfl, ?_⟩
   refine OW.p (PEv.vl (v' := vu (x % y)) (PEv.rem (.t rfl) (.t rfl) oQ) (congrArg (Go.Value.int .u64) (by rfl))) rfl rfl (AW.step (rs := [5]) kQ cQ ?_)
   intro i hi
   obtain rfl := List.mem_singleton.1 hi
   refine ⟨_, rfl, rfl, ?_⟩
   refine OW.p (PEv.assign (.t rfl)) rfl rfl (AW.done kQ (Ae (Ar ?_)))
   exact ⟨(y, x % y), ⟨by rw [← hg]; exact (Et x y).symm, hW⟩, tQ, by show x % y < y; exact Nat.mod_lt _ oQ⟩
  skip
  refine ⟨_, rfl, rfl, ?_⟩
  refine OW.p (PEv.vl (v' := vu (x % y)) (PEv.rem (.t rfl) (.t rfl) oQ) (congrArg (Go.Value.int .u64) (by rfl))) rfl rfl (AW.step (rs := [0]) kQ cQ ?_)
  intro i hi
  obtain rfl := List.mem_singleton.1 hi
  refine ⟨_, rfl, rfl, ?_⟩
  refine OW.p (PEv.mv rfl) rfl rfl (AW.step (rs := [4]) kQ cQ ?_)
  intro i hi
  obtain rfl := List.mem_singleton.1 hi
  refine ⟨_, rfl, rfl, ?_⟩
  refine OW.p (PEv.assign (.t rfl)) rfl rfl (AW.step (rs := [5]) kQ cQ ?_)
  intro i hi
  obtain rfl := List.mem_singleton.1 hi
  refine ⟨_, rfl, rfl, ?_⟩
  refine OW.p (PEv.assign (.t rfl)) rfl rfl (AW.done kQ (Ae (Ar ?_)))
  exact ⟨(y, x % y), ⟨by rw [← hg]; exact (Et x y).symm, hW⟩, tQ, by show x % y < y; exact Nat.mod_lt _ oQ⟩
 have hy0 : y = 0 := by simpa using h6
 refine Bl (Ad (Ad (Aq (Ac (Af (Ab rfl (LW.A rfl (Ai (Ak (KW.q ?_))))))))))
 exact ⟨by rw [← hg, hy0, Nat.gcd_zero_right], hW⟩
end Go.Proofs.YtgjogglfnkgapaaGreatDoor
namespace Go.Wx
open Go.RowKit
section
variable (R : Option Nat) (m : Nat) (P : Program) (n : Nat) (ds : List Deferred)
def KJ (ops : Array Oper) (Q : Exit → Go.Act → World → Prop) (s : Nat) (l : Env) (w : World) : Prop := ∀ (fuel : Nat) (listed : Array Bool) (a : Go.Act), ops.size - s ≤ fuel → yN ops s listed → Ag n ds l a w → wpAnyIn (FR R) m P .any ops Q fuel listed a w
end
def Jl (ops : Array Oper) (k : Nat) : Bool :=
 (List.range ops.size).all fun i => !Nat.ble (k + 1) i || (match ops[i]? with | none => false | some o => o.after.any fun e => Region.binds .any e && Nat.ble k e.on)
def JZ (n : Nat) (ops : Array Oper) (s k : Nat) : Bool := (List.range k).all fun i => !Nat.ble s i || (match ops[i]? with
 | none => false
 | some o => match o.dst with
   | none => false
   | some d => Nat.ble (d + 1) n && (List.range k).all fun j => !Nat.ble s j || (Nat.beq i j || (match ops[j]? with | none => true | some p => !(p.dst == some d))))
theorem Kq : ∀ {l : Env} {i : Nat} {ph : Ph}, lk l i = some ph → (i, ph) ∈ l
 | [], _, _, h => by cases h
 | (j, q) :: l, i, ph, h => by
   by_cases e : i = j
   · subst e; rw [Bh] at h; cases h; exact List.mem_cons_self
   rw [Bj e] at h; exact List.mem_cons_of_mem _ (Kq h)
section
variable {R : Option Nat} {m : Nat} {P : Program} {n : Nat} {ds : List Deferred} {Q : Exit → Go.Act → World → Prop} {l : Env} {w : World} {ops : Array Oper}
theorem nA {k : Nat} (h : Jl ops k = true) {i : Nat} {o : Oper} (ho : ops[i]? = some o) (hk : k < i) : ∃ e ∈ o.after, Region.binds .any e = true ∧ k ≤ e.on := by
 have hi : i < ops.size := (Array.getElem?_eq_some_iff.1 ho).1
 have h1 := List.all_eq_true.1 h i (List.mem_range.2 hi)
 have hb : Nat.ble (k + 1) i = true := Nat.ble_eq_true_of_le hk
 simp only [ho, hb, Bool.not_true, Bool.false_or] at h1
 obtain ⟨e, he, hh⟩ := Array.any_eq_true.1 h1
 simp only [Bool.and_eq_true] at hh
 exact ⟨_, Array.getElem_mem he, hh.1, Nat.le_of_ble_eq_true hh.2⟩
theorem Fl {id : Nat} {opsL : List Oper} (hm : P.follows .mixedOrders = true) (hl : Cf l = true) (h : KJ R m P n ds opsL.toArray Q 0 l w.drew) : CW R m P n ds (.region id opsL.toArray true) Q l w := fun a ha =>
 wpIn_region_any hm (h _ _ a (by simp) ⟨by simp, fun j hj => by
   rw [Array.getD_eq_getD_getElem?, Array.getElem?_replicate]
   split <;> rfl⟩ (ha.world hl _))
def allL (p : Nat → Oper → Prop) : Nat → List Oper → Prop
 | _, [] => True
 | i, o :: r => p i o ∧ allL p (i + 1) r
theorem allL.nil {p : Nat → Oper → Prop} {i : Nat} : allL p i [] := trivial
theorem allL.cons {p : Nat → Oper → Prop} {i : Nat} {o : Oper} {r : List Oper} (h : p i o) (k : allL p (i + 1) r) : allL p i (o :: r) := ⟨h, k⟩
abbrev aC := @allL.cons
theorem allL.at {p : Nat → Oper → Prop} : ∀ {r : List Oper} {i j : Nat} {o : Oper}, allL p i r → r[j]? = some o → p (i + j) o
 | [], _, _, _, _, h => by cases h
 | x :: r, i, 0, o, hp, h => by
   rw [List.getElem?_cons_zero] at h
   cases h; exact hp.1
 | x :: r, i, j + 1, o, hp, h => by
   rw [List.getElem?_cons_succ] at h
   have := allL.at hp.2 h
   rwa [show i + 1 + j = i + (j + 1) by omega] at this
def Kr (base : Env) (r : List Oper) : Bool := r.all fun o => match o.dst with | none => true | some d => (lk base d).isNone
theorem Gu {base : Env} {r : List Oper} (h : Kr base r = true) {i : Nat} {ph : Ph} (hi : lk base i = some ph) {o : Oper} (ho : o ∈ r) : o.dst ≠ some i := by
 intro e
 have := List.all_eq_true.1 h o ho
 simp [e, hi] at this
end
end Go.Wx
namespace Go.Wx
open Go.RowKit Go.MapKept
structure Cel (w w' : World) : Prop where
 size : w.heap.size ≤ w'.heap.size
 cell : ∀ ad v, w.cell? ad = some v → w'.cell? ad = some v
 blk : ∀ (b : Nat) (cs : Array Value) (T : TypeId) (x : Nat × Nat), w.heap[b]? = some (Obj.cells cs T x) → w'.heap[b]? = some (Obj.cells cs T x)
section
variable (R : Option Nat) (m : Nat) (P : Program) (n : Nat) (ds : List Deferred)
def KA (o : Oper) (a : Go.Act) (w : World) (Post : Value → World → Prop) : Prop := aO P o a w Post ∨ (∃ w', (execOp a.eval o).run P w = .ok .skip w' ∧ Post undef w')
def TG (ops : Array Oper) (env : Env) (f : Nat → Value) (w : World) (o : Oper) (Post : Value → World → Prop) : Prop := ∀ a, Ag n ds env a w → (∀ t, a.tmps.getD t undef = f t) → if Region.wanted o (yielded ops a.tmps) = true then KA P o a w Post else Post undef w
def AWF (ops : Array Oper) (Q : Exit → Go.Act → World → Prop) (s : Nat) (l : Env) (f : Nat → Value) (w : World) : Prop := ∀ (fuel : Nat) (listed : Array Bool) (a : Go.Act), ops.size - s ≤ fuel → yN ops s listed → Ag n ds l a w → (∀ t, a.tmps.getD t undef = f t) → wpAnyIn (FR R) m P .any ops Q fuel listed a w
end
def G2 (n : Nat) (ops : Array Oper) (s k : Nat) : Bool := (List.range k).all fun i => !Nat.ble s i || (match ops[i]? with
 | none => false
 | some o => match o.dst with
   | none => true
   | some d => Nat.ble (d + 1) n && (List.range k).all fun j => !Nat.ble s j || (Nat.beq i j || (match ops[j]? with | none => true | some p => !(p.dst == some d))))
def Ml (ops : Array Oper) (ph : Nat → Ph) (s : Nat) (o : Oper) : Env := o.after.toList.filterMap fun e => if (Region.binds .any e && Nat.ble s e.on) = true then ((ops[e.on]?).bind (·.dst)).map fun d => (d, ph e.on) else none
def He (ops : Array Oper) (ph : Nat → Ph) (s k : Nat) : Env := (List.range k).filterMap fun j => if Nat.ble s j = true then ((ops[j]?).bind (·.dst)).map fun d => (d, ph j) else none
def JK (ops : Array Oper) (L : Nat → Bool) : Prop := ∀ (i : Nat) (o : Oper), ops[i]? = some o → L i = true → ∀ e ∈ o.after, Region.binds .any e = true → L e.on = true
def C9 (L : Nat → Bool) (i : Nat) : Nat → Bool := fun j => if j = i then true else L j
def Fe (f : Nat → Value) (d : Option Nat) (v : Value) : Nat → Value := fun t => if d = some t then v else f t
section
variable {R : Option Nat} {m : Nat} {P : Program} {n : Nat} {ds : List Deferred} {Q : Exit → Go.Act → World → Prop} {l : Env} {w : World} {ops : Array Oper}
theorem Dk {s k : Nat} (h : G2 n ops s k = true) {i : Nat} {o : Oper} {d : Nat} (hs : s ≤ i) (hk : i < k) (ho : ops[i]? = some o) (hd : o.dst = some d) : d < n ∧ ∀ (j : Nat) (p : Oper), s ≤ j → j < k → j ≠ i → ops[j]? = some p → p.dst ≠ some d := by
 have h1 := List.all_eq_true.1 h i (List.mem_range.2 hk)
 have hb : Nat.ble s i = true := Nat.ble_eq_true_of_le hs
 simp only [hb, Bool.not_true, Bool.false_or, ho, hd] at h1
 simp only [Bool.and_eq_true] at h1
 refine ⟨Nat.le_of_ble_eq_true h1.1, fun j p hj hjk hne hp => ?_⟩
 have h2 := List.all_eq_true.1 h1.2 j (List.mem_range.2 hjk)
 have hb' : Nat.ble s j = true := Nat.ble_eq_true_of_le hj
 have hb2 : Nat.beq i j = false := by
   cases e : Nat.beq i j with
   | false => rfl
   | true => exact absurd (Nat.eq_of_beq_eq_true e).symm hne
 simp only [hb', Bool.not_true, Bool.false_or, hb2, hp] at h2
 intro e
 rw [e] at h2
 simp at h2
theorem bF {ph : Nat → Ph} {s : Nat} {o : Oper} {t : Nat} {q : Ph} (h : lk (Ml ops ph s o) t = some q) : ∃ e ∈ o.after, Region.binds .any e = true ∧ s ≤ e.on ∧ ∃ p, ops[e.on]? = some p ∧ p.dst = some t ∧ q = ph e.on := by
 have h1 := Kq h
 unfold Ml at h1
 rw [List.mem_filterMap] at h1
 obtain ⟨e, he, h2⟩ := h1
 split at h2
 · rename_i hc
   simp only [Bool.and_eq_true] at hc
   cases hp : ops[e.on]? with
   | none => rw [hp] at h2; cases h2
   | some p =>
     rw [hp] at h2
     cases hd : p.dst with
     | none => simp [hd] at h2
     | some d =>
       simp [hd] at h2
       obtain ⟨rfl, rfl⟩ := h2
       exact ⟨e, by simpa using he, hc.1, Nat.le_of_ble_eq_true hc.2, p, hp, hd, rfl⟩
 cases h2
theorem Fo {ph : Nat → Ph} {s k : Nat} {t : Nat} {q : Ph} (h : lk (He ops ph s k) t = some q) : ∃ j p, s ≤ j ∧ j < k ∧ ops[j]? = some p ∧ p.dst = some t ∧ q = ph j := by
 have h1 := Kq h
 unfold He at h1
 rw [List.mem_filterMap] at h1
 obtain ⟨j, hj, h2⟩ := h1
 split at h2
 · rename_i hc
   cases hp : ops[j]? with
   | none => rw [hp] at h2; cases h2
   | some p =>
     rw [hp] at h2
     cases hd : p.dst with
     | none => simp [hd] at h2
     | some d =>
       simp [hd] at h2
       obtain ⟨rfl, rfl⟩ := h2
       exact ⟨j, p, Nat.le_of_ble_eq_true hc, List.mem_range.1 hj, hp, hd, rfl⟩
 cases h2
theorem nB {o : Oper} {a : Go.Act} {Post : Value → World → Prop} {K : Go.Act → World → Prop} {w : World} (h : KA P o a w Post) (hk : ∀ v w', Post v w' → K (a.put o.dst v) w') : o.wpIn (FR R) m P a w K Q := by
 rcases h with h | ⟨w', hr, hp⟩
 · exact Hw h hk
 exact P8 hr (hk _ w' hp)
theorem Jm {s k : Nat} {base : Env} (ph : Nat → Ph) (Rel : World → World → Prop) (Inv : (Nat → Bool) → (Nat → Value) → World → Prop) {f0 : Nat → Value}
   (hrefl : ∀ w, Rel w w) (htr : ∀ w w1 w2, Rel w w1 → Rel w1 w2 → Rel w w2) (hph : ∀ i v w w', (ph i).holds v w → Rel w w' → (ph i).holds v w')
   (hA : D7 ops = true) (hC : (Nat.beq k ops.size || Fh ops k) = true) (hF : Jl ops k = true) (hks : Nat.ble k ops.size = true) (hsk : Nat.ble s k = true)
   (hD : G2 n ops s k = true) (hbp : Cf base = true) (hbd : ∀ i ph, lk base i = some ph → ∀ (j : Nat) (o : Oper), s ≤ j → j < k → ops[j]? = some o → o.dst ≠ some i)
   (hop : ∀ i o, s ≤ i → i < k → ops[i]? = some o → ∀ L f W, Rel w W → JK ops L → L i = false → (∀ e ∈ o.after, Region.binds .any e = true → L e.on = true) → Inv L f W →
     TG P n ds ops (Ml ops ph s o ++ base) f W o (fun v W' => Rel W W' ∧ (∀ d, o.dst = some d → (ph i).holds v W') ∧ Inv (C9 L i) (Fe f o.dst v) W'))
   (hw : Inv (fun j => decide (j < s)) f0 w) (hend : ∀ f W, Rel w W → Inv (fun j => decide (j < k)) f W → AWF R m P n ds ops Q k (He ops ph s k ++ base) f W) : AWF R m P n ds ops Q s base f0 w := by
 have hks : k ≤ ops.size := Nat.le_of_ble_eq_true hks
 have hsk : s ≤ k := Nat.le_of_ble_eq_true hsk
 suffices H : ∀ (fuel : Nat) (listed : Array Bool) (a : Go.Act) (f : Nat → Value) (W : World), listed.size = ops.size → listed.toList.countP (· == false) ≤ fuel → (∀ j, j < s → listed.getD j false = true) → (∀ j, k ≤ j → j < ops.size → listed.getD j false = false) → Dn ops listed → Ag n ds base a W → (∀ t, a.tmps.getD t undef = f t) → Rel w W →
     (∀ (j : Nat) (o : Oper) (d : Nat), s ≤ j → j < k → ops[j]? = some o → o.dst = some d → listed.getD j false = true → (ph j).holds (f d) W) → Inv (fun j => listed.getD j false) f W → wpAnyIn (FR R) m P .any ops Q fuel listed a W by
   intro fuel listed a hf hu ha hsl
   have hno : ∀ j, s ≤ j → j < ops.size → listed.getD j false = false := fun j h1 h2 => by rw [hu.2 j h2]; simpa using h1
   have hyes : ∀ j, j < s → listed.getD j false = true := fun j h1 => by rw [hu.2 j (by omega)]; simpa using h1
   refine H fuel listed a f0 w hu.1 ?_ hyes (fun j h1 h2 => hno j oQ h2) ?_ ha hsl (hrefl w) ?_ ?_
   · have e : listed.toList = listed.toList.take s ++ listed.toList.drop s := (List.take_append_drop s _).symm
     rw [e, List.countP_append]
     have z1 : (listed.toList.take s).countP (· == false) = 0 := by
       rw [List.countP_eq_zero]
       intro b hb
       obtain ⟨j, hj, he⟩ := List.mem_iff_getElem.1 hb
       rw [List.getElem_take] at he
       have hj' : j < s := by simp at hj; omega
       have hj2 : j < listed.size := by simp at hj; omega
       have := hyes j hj'
       rw [Array.getD_eq_getD_getElem?] at this
       simp only [hj2, Array.getElem?_eq_getElem, Option.getD_some] at this
       rw [← he]
       simp [this]
     have z2 : (listed.toList.drop s).countP (· == false) ≤ (listed.toList.drop s).length := List.countP_le_length
     have z3 : (listed.toList.drop s).length = ops.size - s := by simp [hu.1]
     omega
   · intro i o ho hli e he hb
     have hi : i < ops.size := (Array.getElem?_eq_some_iff.1 ho).1
     have his : i < s := by
       rcases Nat.lt_or_ge i s with h | h
       · exact h
       rw [hno i h hi] at hli; cases hli
     exact hyes _ (by have := Dx hA ho e he hb; omega)
   · intro j o d hj hjk ho _ hlj
     rw [hno j hj (by omega)] at hlj
     cases hlj
   have e : (fun j => listed.getD j false) = fun j => decide (j < s) := by
     funext j
     rcases Nat.lt_or_ge j ops.size with h | h
     · exact hu.2 j h
     have := hu.1
     rw [Array.getD_eq_getD_getElem?, Array.getElem?_eq_none oQ, decide_eq_false (by omega)]
     rfl
   rw [e]
   exact hw
 have last : ∀ (fuel : Nat) (listed : Array Bool) (a : Go.Act) (f : Nat → Value) (W : World), listed.size = ops.size → listed.toList.countP (· == false) ≤ fuel → (∀ j, k ≤ j → j < ops.size → listed.getD j false = false) → Ag n ds base a W → (∀ t, a.tmps.getD t undef = f t) → Rel w W →
     (∀ (j : Nat) (o : Oper) (d : Nat), s ≤ j → j < k → ops[j]? = some o → o.dst = some d → listed.getD j false = true → (ph j).holds (f d) W) → Inv (fun j => listed.getD j false) f W → (∀ j, j < k → listed.getD j false = true) → wpAnyIn (FR R) m P .any ops Q fuel listed a W := by
   intro fuel listed a f W hs hc hno ha hsl hR hI hSt hall
   have e : (fun j => listed.getD j false) = fun j => decide (j < k) := by
     funext j
     rcases Nat.lt_or_ge j k with h | h
     · rw [hall j h, decide_eq_true h]
     rcases Nat.lt_or_ge j ops.size with h' | h'
     · rw [hno j h h', decide_eq_false (by omega)]
     rw [Array.getD_eq_getD_getElem?, Array.getElem?_eq_none oQ, decide_eq_false (by omega)]
     rfl
   rw [e] at hSt
   refine hend f W hR hSt fuel listed a (R4 hs hc hno) ⟨hs, fun j hj => congrFun e j⟩ ⟨ha.defers, ha.size, fun t q ht => ?_⟩ hsl
   rcases Cy ht with h | h
   · obtain ⟨j, p, hj, hjk, hp, hd, rfl⟩ := Fo h
     rw [hsl]
     exact hI j p t hj hjk hp hd (hall j hjk)
   exact ha.val t q h
 intro fuel
 induction fuel with
 | zero =>
   intro listed a f W hs hc hyes hno hDn ha hsl hR hI hSt
   refine last 0 listed a f W hs hc hno ha hsl hR hI hSt (fun j hj => ?_)
   have h0 : listed.toList.countP (· == false) = 0 := by omega
   rw [List.countP_eq_zero] at h0
   have hlt : j < listed.size := by omega
   have := h0 listed[j] (by simp)
   rw [Array.getD_eq_getD_getElem?]
   simp only [hlt, Array.getElem?_eq_getElem, Option.getD_some]
   simpa using this
 | succ fuel ih =>
   intro listed a f W hs hc hyes hno hDn ha hsl hR hI hSt
   by_cases hall : ∀ j, j < k → listed.getD j false = true
   · exact last (fuel + 1) listed a f W hs hc hno ha hsl hR hI hSt hall
   simp only [Classical.not_forall] at hall
   obtain ⟨c, hck, hcf⟩ := hall
   have hcf : listed.getD c false = false := by simpa using hcf
   refine ⟨fun hr => ?_, fun i hi => ?_⟩
   · exfalso
     obtain ⟨i, hi⟩ := Km hA (k := k) oQ hs c hck hcf
     rw [hr] at hi
     cases hi
   obtain ⟨o, hio, hbi, hed⟩ := (Fg hs).1 hi
   have hi' : i < ops.size := (Array.getElem?_eq_some_iff.1 hio).1
   have hlt : i < listed.size := by omega
   have hsi : s ≤ i := by
     rcases Nat.lt_or_ge i s with h | h
     · rw [hyes i h] at hbi; cases hbi
     exact h
   have hik : i < k := by
     rcases Nat.lt_or_ge i k with h | h
     · exact h
     exfalso
     by_cases e : i = k
     · subst e
       rcases Bool.or_eq_true_iff.1 hC with hC | hC
       · have := Nat.eq_of_beq_eq_true hC; omega
       have := J2 hC hDn hio hed (i - c) c rfl hck
       rw [hcf] at this; cases this
     obtain ⟨e', he, hb, hon⟩ := nA hF hio oQ
     have h1 := hed e' he hb
     have h2 := Dx hA hio e' he hb
     rw [hno e'.on hon (by omega)] at h1
     cases h1
   have hag : Ag n ds (Ml ops ph s o ++ base) a W := by
     refine ⟨ha.defers, ha.size, fun t q ht => ?_⟩
     rcases Cy ht with h | h
     · obtain ⟨e, he, hb, hse, p, hp, hpd, rfl⟩ := bF h
       rw [hsl]
       exact hI e.on p t hse (by have := Dx hA hio e he hb; omega) hp hpd (hed e he hb)
     exact ha.val t q h
   have eL : (fun j => (listed.setIfInBounds i true).getD j false) = C9 (fun j => listed.getD j false) i := by
     funext j
     rw [C8 hlt]
     rfl
   have key : ∀ (v : Value) (W' : World), Rel W W' ∧ (∀ d, o.dst = some d → (ph i).holds v W') ∧ Inv (C9 (fun j => listed.getD j false) i) (Fe f o.dst v) W' → wpAnyIn (FR R) m P .any ops Q fuel (listed.setIfInBounds i true) (a.put o.dst v) W' := by
     rintro v W' ⟨hRel, hv, hSt'⟩
     refine ih _ _ (Fe f o.dst v) W' (by simpa using hs) (J3 hlt hbi hc) ?_ ?_ (R3 hlt hio hed hDn) ?_ ?_ (htr _ _ _ hR hRel) ?_ (by rw [eL]; exact hSt')
     · intro j hj
       rw [C8 hlt]
       split
       · rfl
       exact hyes j hj
     · intro j hj hjs
       rw [C8 hlt, if_neg (by omega)]
       exact hno j hj hjs
     · cases hd : o.dst with
       | none => exact ha.world hbp W'
       | some d =>
         refine ⟨ha.defers, by simp [Go.Act.put, ha.size], fun t q ht => ?_⟩
         have hne' : t ≠ d := fun e => hbd t q ht i o hsi hik hio (by rw [hd, e])
         rw [Cw hne']
         exact El hbp ht (ha.val t q ht)
     · intro t
       cases hd : o.dst with
       | none => exact hsl t
       | some d =>
         by_cases e : t = d
         · subst e
           rw [Du (by rw [ha.size]; exact (Dk hD hsi hik hio hd).1)]
           simp [Fe]
         rw [Cw e, hsl]
         simp [Fe, Ne.symm e]
     intro j p d' hj hjk hp hpd hl
     by_cases e : j = i
     · subst e
       rw [hio] at hp; cases hp
       rw [hpd]
       simp only [Fe, if_true]
       exact hv d' hpd
     rw [C8 hlt, if_neg e] at hl
     have hne' : o.dst ≠ some d' := fun ee => (Dk hD hsi hik hio ee).2 j p hj hjk e hp hpd
     simp only [Fe, if_neg hne']
     exact hph j _ _ _ (hI j p d' hj hjk hp hpd hl) hRel
   have top := hop i o hsi hik hio _ f W hR (fun i o ho hli e he hb => hDn i o ho hli e he hb) hbi hed hSt
   have top := top a hag hsl
   unfold wpOpIn
   rw [hio]
   dsimp only
   split
   · rename_i hw'
     rw [if_pos hw'] at top
     exact nB top key
   rename_i hw'
   rw [if_neg hw'] at top
   exact ⟨fun _ _ => trivial, key _ W top⟩
theorem Cel.refl (w : World) : Cel w w := ⟨Nat.le_refl _, fun _ _ h => h, fun _ _ _ _ h => h⟩
theorem Cel.trans {w w1 w2 : World} (h : Cel w w1) (k : Cel w1 w2) : Cel w w2 := ⟨Nat.le_trans h.size k.size, fun ad v hv => k.cell ad v (h.cell ad v hv), fun b cs T x hb => k.blk b cs T x (h.blk b cs T x hb)⟩
theorem Up.G3 {w w' : World} (u : Up w w') : Cel w w' := ⟨u.size, fun _ _ h => Wo h u, fun _ _ _ _ h => (u.block (lt_of_block h)).trans h⟩
theorem Sto.G3 {w w' : World} {b : Nat} (u : Sto b w w') (hz : w.heap.size ≤ w'.heap.size) (hb : ∀ ad v, ad.block = b → w.cell? ad ≠ some v) (hk : ∀ (cs : Array Value) (T : TypeId) (x : Nat × Nat), w.heap[b]? ≠ some (Obj.cells cs T x)) : Cel w w' := ⟨hz, fun ad v h => mH h u (fun e => hb ad v e h), fun i cs T x h => (u.block i (lt_of_block h) (fun e => hk cs T x (e ▸ h))).trans h⟩
theorem IMap.yY {w : World} {b : Nat} {kv : List (Int × Value)} (h : IMap w b kv) : ∀ ad v, ad.block = b → w.cell? ad ≠ some v := by
 intro ad v e hc
 obtain ⟨es, clock, h1, _⟩ := h
 unfold World.cell? at hc
 rw [e, h1] at hc
 cases hc
theorem IMap.HD {w : World} {b : Nat} {kv : List (Int × Value)} (h : IMap w b kv) : ∀ (cs : Array Value) (T : TypeId) (x : Nat × Nat), w.heap[b]? ≠ some (Obj.cells cs T x) := by
 intro cs T x hc
 obtain ⟨es, clock, h1, _⟩ := h
 rw [h1] at hc
 cases hc
theorem AggAt.G3 {w w' : World} {B o : Nat} {cs : Array Value} (h : AggAt w B o cs) (k : Cel w w') : AggAt w' B o cs := fun j v hv => k.cell _ _ (h j v hv)
theorem Els.G3 {α : Type} {w w' : World} {ad : Option Addr} {k : Nat} {enc : α → Array Value} {xs : List α} (h : Els w ad k enc xs) (u : Cel w w') : Els w' ad k enc xs := fun i x hx => let ⟨B, o, h1, h2⟩ := h i x hx; ⟨B, o, h1, h2.G3 u⟩
theorem Sl.G3 {α : Type} {w w' : World} {v : Value} {k : Nat} {enc : α → Array Value} {xs : List α} (h : Sl w v k enc xs) (u : Cel w w') : Sl w' v k enc xs := let ⟨ad, c, h1, h2⟩ := h; ⟨ad, c, h1, Els.G3 h2 u⟩
theorem SEv.insert {ty : TypeId} {ps : String} {af : Array Edge} {g : Option (Nat × Bool)} {T K E : TypeId} {mo x y : Operand} {b : Nat} {k : Int} {v : Value} {kv : List (Int × Value)} (hT : P.underlying T = some (.map K E)) (hK : P.underlying K = some (.int .i64)) (hm : Val l mo (.map (some b))) (hx : Val l x (vi k)) (hy : Val l y v) (h : IMap w b kv) :
   SEv P n ds l w ⟨none, .insert T mo x y, ty, ps, af, g⟩ (fun w' => IMap w' b (Gw kv k v) ∧ Sto b w w' ∧ w'.heap.size = w.heap.size) := fun a ha =>
 SEv.mapUpdate (ty := ty) (ps := ps) (af := af) (g := g) hT hK hm hx hy h a ha
def HE (m0 ms : Nat) (J : List (Nat × Int × Nat)) (w0 : World) (L : Nat → Bool) (f : Nat → Value) (W : World) : Prop :=
 Up w0 W ∧ (L m0 = true → ∃ b kv, f ms = .map (some b) ∧ w0.heap.size ≤ b ∧ IMap W b kv ∧ kv.Perm ((J.filter fun j => L j.1).map fun j => (j.2.1, f j.2.2)))
def Og (ops : Array Oper) (m0 : Nat) (J : List (Nat × Int × Nat)) : Bool :=
 J.all fun j => match ops[j.1]? with
   | none => false
   | some o => o.dst.isNone && (o.after.any fun e => Region.binds .any e && Nat.beq e.on m0) && (o.after.any fun e => Region.binds .any e && (match ops[e.on]? with | none => false | some p => p.dst == some j.2.2))
theorem G4 {m0 : Nat} {J : List (Nat × Int × Nat)} (h : Og ops m0 J = true) {j : Nat × Int × Nat} (hj : j ∈ J) : ∃ o, ops[j.1]? = some o ∧ o.dst = none ∧ (∃ e ∈ o.after, Region.binds .any e = true ∧ e.on = m0) ∧ ∃ e ∈ o.after, Region.binds .any e = true ∧ ∃ p, ops[e.on]? = some p ∧ p.dst = some j.2.2 := by
 have h1 := List.all_eq_true.1 h j hj
 cases ho : ops[j.1]? with
 | none => simp [ho] at h1
 | some o =>
   simp only [ho, Bool.and_eq_true] at h1
   obtain ⟨⟨h2, h3⟩, h4⟩ := h1
   obtain ⟨e, he, hh⟩ := Array.any_eq_true.1 h3
   simp only [Bool.and_eq_true] at hh
   obtain ⟨e', he', hh'⟩ := Array.any_eq_true.1 h4
   simp only [Bool.and_eq_true] at hh'
   refine ⟨o, rfl, by simpa using h2, ⟨_, Array.getElem_mem he, hh.1, Nat.eq_of_beq_eq_true hh.2⟩, ⟨_, Array.getElem_mem he', hh'.1, ?_⟩⟩
   have h5 := hh'.2
   split at h5
   · cases h5
   rename_i p hp
   exact ⟨p, hp, by simpa using h5⟩
theorem R9 {J : List (Nat × Int × Nat)} {L : Nat → Bool} {i : Nat} (hn : i ∉ J.map (·.1)) : (J.filter fun j => C9 L i j.1) = J.filter fun j => L j.1 := by
 apply List.filter_congr
 intro j hj
 have : j.1 ≠ i := fun e => hn (e ▸ List.mem_map.2 ⟨j, hj, rfl⟩)
 simp [C9, this]
theorem Sa : ∀ {J : List (Nat × Int × Nat)} {L : Nat → Bool} {i : Nat} {k : Int} {s : Nat}, (J.map (·.1)).Nodup → (i, k, s) ∈ J → L i = false → (J.filter fun j => C9 L i j.1).Perm ((i, k, s) :: J.filter fun j => L j.1)
 | [], _, _, _, _, _, h, _ => by cases h
 | x :: r, L, i, k, s, hn, h, hL => by
   obtain ⟨h1, h2⟩ := List.nodup_cons.1 (by simpa using hn : (x.1 :: r.map (·.1)).Nodup)
   rcases List.mem_cons.1 h with rfl | h
   · rw [List.filter_cons, List.filter_cons, if_pos (by simp [C9]), if_neg (by simp [hL]), R9 h1]
   have hne : x.1 ≠ i := fun e => h1 (e ▸ List.mem_map.2 ⟨_, h, rfl⟩)
   have e : C9 L i x.1 = L x.1 := by simp [C9, hne]
   have ih := Sa h2 h hL
   rw [List.filter_cons, List.filter_cons, e]
   split
   · exact (List.Perm.cons _ ih).trans (List.Perm.swap _ _ _)
   exact ih
theorem Ya {kv : List (Int × Value)} {k : Int} {v : Value} (h : k ∉ kv.map (·.1)) : Gw kv k v = kv ++ [(k, v)] := by rw [Gw, if_neg h]
theorem sS {J : List (Nat × Int × Nat)} (hn : (J.map (·.2.1)).Nodup) {x y : Nat × Int × Nat} (hx : x ∈ J) (hy : y ∈ J) (h : x.2.1 = y.2.1) : x = y := by
 obtain ⟨i, hi, rfl⟩ := List.mem_iff_getElem.1 hx
 obtain ⟨j, hj, rfl⟩ := List.mem_iff_getElem.1 hy
 have := (List.getElem_inj (i := i) (j := j) (h₀ := by simpa using hi) (h₁ := by simpa using hj) hn).1 (by simpa using h)
 subst this; rfl
theorem AWF.bG {k m0 ms T K E : Nat} {base : Env} {J : List (Nat × Int × Nat)} (ph : Nat → Ph) {f0 : Nat → Value} (hT : P.underlying T = some (.map K E)) (hK : P.underlying K = some (.int .i64))
   (hph : ∀ i v w w', (ph i).holds v w → Cel w w' → (ph i).holds v w') (hA : D7 ops = true) (hC : (Nat.beq k ops.size || Fh ops k) = true) (hF : Jl ops k = true) (hks : Nat.ble k ops.size = true)
   (hD : G2 n ops 0 k = true) (hbp : Cf base = true) (hbd : ∀ i ph, lk base i = some ph → ∀ (j : Nat) (o : Oper), 0 ≤ j → j < k → ops[j]? = some o → o.dst ≠ some i)
   (hlit : Og ops m0 J = true) (hJi : (J.map (·.1)).Nodup) (hJk : (J.map (·.2.1)).Nodup) (hJl : ∀ j ∈ J, j.1 < k) (hm0k : m0 < k)
   (hm0 : ∃ ty ps, ops[m0]? = some ⟨some ms, .makeMap T none, ty, ps, #[], none⟩)
   (hins : ∀ j ∈ J, ∃ ty ps af, ops[j.1]? = some ⟨none, .insert T (.tmp ms) (.const (vi j.2.1)) (.tmp j.2.2), ty, ps, af, none⟩)
   (hmp : ∀ b W, (ph m0).holds (.map (some b)) W)
   (hop : ∀ i o, i < k → i ≠ m0 → i ∉ J.map (·.1) → ops[i]? = some o → o.guard = none ∧ ∀ W, Cel w W → ∀ a, Ag n ds (Ml ops ph 0 o ++ base) a W → aO P o a W (fun v W' => Up W W' ∧ (ph i).holds v W'))
   (hend : ∀ f W b kv, Up w W → f ms = .map (some b) → IMap W b kv → kv.Perm (J.map fun j => (j.2.1, f j.2.2)) → AWF R m P n ds ops Q k (He ops ph 0 k ++ base) f W) : AWF R m P n ds ops Q 0 base f0 w := by
 refine Jm ph Cel (HE m0 ms J w) Cel.refl (fun _ _ _ => Cel.trans) hph hA hC hF hks (by simp) hD hbp hbd ?_ ⟨Up.refl w, fun h => by simp at h⟩ ?_
 · intro i o _ hik hio L f W hRel hDn hLi hed hInv
   obtain ⟨hUp, hInv⟩ := hInv
   by_cases e0 : i = m0
   · subst e0
     obtain ⟨ty, ps, hm0⟩ := hm0
     rw [hio] at hm0; cases hm0
     intro a ha hsl
     rw [if_pos (by simp [Region.wanted])]
     obtain ⟨v, W', hr, b, rfl, hM, hu, hb, hz⟩ := REv.makeMap (P := P) (n := n) (ds := ds) (l := Ml ops ph 0 _ ++ base) (w := W) (d := some ms) (ty := ty) (ps := ps) (af := #[]) (g := none) a ha
     refine .inl (.inl ⟨_, W', hr, hu.G3, fun _ _ => hmp b W', hUp.trans hu, fun _ => ⟨b, [], ?_, ?_, hM, ?_⟩⟩)
     · simp [Fe]
     · have := hUp.size; omega
     have : (J.filter fun j => C9 L i j.1) = [] := by
       rw [List.filter_eq_nil_iff]
       intro j hj
       obtain ⟨oj, hoj, _, ⟨e, he, hbe, hon⟩, _⟩ := G4 hlit hj
       intro hLj
       have hne : j.1 ≠ i := fun e' => by
         have := Dx hA hoj e he hbe
         omega
       have : L j.1 = true := by simpa [C9, hne] using hLj
       have := hDn _ _ hoj this e he hbe
       rw [hon, hLi] at this; cases this
     rw [this]; exact List.Perm.nil
   by_cases ej : i ∈ J.map (·.1)
   · obtain ⟨⟨i', key, s⟩, hj, rfl⟩ := List.mem_map.1 ej
     obtain ⟨ty, ps, af, ho⟩ := hins _ hj
     rw [hio] at ho; cases ho
     intro a ha hsl
     rw [if_pos (by simp [Region.wanted])]
     obtain ⟨oj, hoj, _, ⟨e, he, hbe, hon⟩, ⟨e', he', hbe', p, hp, hpd⟩⟩ := G4 hlit hj
     rw [hio] at hoj; cases hoj
     obtain ⟨b, kv, h1, hb, hM, hperm⟩ := hInv (by rw [← hon]; exact hed e he hbe)
     have hag : Ag n ds [(s, .eq (f s)), (ms, .eq (.map (some b)))] a W := by
       refine ⟨ha.defers, ha.size, fun t q ht => ?_⟩
       by_cases e1 : t = s
       · subst e1; rw [Bh] at ht; cases ht; exact hsl _
       rw [Bj e1] at ht
       by_cases e2 : t = ms
       · subst e2; rw [Bh] at ht; cases ht; exact (hsl _).trans h1
       rw [Bj e2] at ht; cases ht
     have vm : Val [(s, .eq (f s)), (ms, .eq (.map (some b)))] (.tmp ms) (.map (some b)) := by
       by_cases e1 : ms = s
       · subst e1; exact .tmp (by rw [Bh, h1])
       exact .tmp (by rw [Bj e1, Bh])
     obtain ⟨W', hr, hM', hsto, hz⟩ := SEv.insert (P := P) (n := n) (ds := ds) (w := W) (ty := ty) (ps := ps) (af := af) (g := none) hT hK vm (.const (vi key)) (.tmp Bh) hM a hag
     have hnk : key ∉ kv.map (·.1) := by
       intro hmem
       have := (hperm.map (·.1)).mem_iff.1 hmem
       rw [List.map_map] at this
       obtain ⟨j', hj', hk'⟩ := List.mem_map.1 this
       obtain ⟨hj1, hj2⟩ := List.mem_filter.1 hj'
       have : j' = (i', key, s) := sS hJk hj1 hj hk'
       rw [this, hLi] at hj2
       cases hj2
     rw [Ya hnk] at hM'
     refine .inr ⟨W', hr, hsto.G3 oQ hM.yY hM.HD, (fun d hd => by cases hd), hUp.sto hsto hb, fun _ => ⟨b, _, h1, hb, hM', ?_⟩⟩
     have := ((Sa hJi hj hLi).map fun j => (j.2.1, f j.2.2))
     refine List.Perm.trans ?_ this.symm
     rw [List.map_cons]
     exact (List.perm_append_comm).trans (List.Perm.cons _ hperm)
   obtain ⟨hg, hop⟩ := hop i o hik e0 ej hio
   intro a ha hsl
   rw [if_pos (by simp [Region.wanted, hg])]
   have done : ∀ v W', Up W W' ∧ (ph i).holds v W' → Cel W W' ∧ (∀ d, o.dst = some d → (ph i).holds v W') ∧ HE m0 ms J w (C9 L i) (Fe f o.dst v) W' := by
     rintro v W' ⟨hu, hv⟩
     refine ⟨hu.G3, fun _ _ => hv, hUp.trans hu, fun hm => ?_⟩
     have hm' : L m0 = true := by simpa [C9, Ne.symm e0] using hm
     obtain ⟨b, kv, h1, hb, hM, hperm⟩ := hInv hm'
     refine ⟨b, kv, ?_, hb, hM.up hu, ?_⟩
     · obtain ⟨ty, ps, hm0⟩ := hm0
       have : o.dst ≠ some ms := by
         intro ed
         exact (Dk hD (Nat.zero_le _) hik hio ed).2 m0 _ (Nat.zero_le _) hm0k (Ne.symm e0) hm0 rfl
       simpa [Fe, this] using h1
     rw [R9 ej]
     have : ((J.filter fun j => L j.1).map fun j => (j.2.1, Fe f o.dst v j.2.2)) = (J.filter fun j => L j.1).map fun j => (j.2.1, f j.2.2) := by
       refine List.map_congr_left fun j hj => ?_
       obtain ⟨hj1, hj2⟩ := List.mem_filter.1 hj
       obtain ⟨oj, hoj, _, _, ⟨e', he', hbe', p, hp, hpd⟩⟩ := G4 hlit hj1
       have hne : o.dst ≠ some j.2.2 := by
         intro ed
         have h2 := hDn _ _ hoj hj2 e' he' hbe'
         have h3 := Dx hA hoj e' he' hbe'
         by_cases ee : e'.on = i
         · rw [ee, hLi] at h2; cases h2
         exact (Dk hD (Nat.zero_le _) hik hio ed).2 e'.on p (Nat.zero_le _) (by have := hJl j hj1; omega) ee hp hpd
       simp [Fe, hne]
     rw [this]
     exact hperm
   rcases hop W hRel a ha with ⟨v, W', hr, hp⟩ | ⟨fn, args, w1, hr, hc⟩
   · exact .inl (.inl ⟨v, W', hr, done v W' hp⟩)
   exact .inl (.inr ⟨fn, args, w1, hr, hc.mono done⟩)
 intro f W hRel hInv
 obtain ⟨hUp, hInv⟩ := hInv
 obtain ⟨b, kv, h1, _, h2, h3⟩ := hInv (by simpa using hm0k)
 refine hend f W b kv hUp h1 h2 ?_
 rwa [List.filter_eq_self.2 (fun j hj => by simpa using hJl j hj)] at h3
def PhC (q : Ph) : Prop := ∀ v w w', q.holds v w → Cel w w' → q.holds v w'
theorem PhC.eq (v : Value) : PhC (.eq v) := fun _ _ _ h _ => h
theorem PhC.pred {p : Value → World → Prop} (h : ∀ v w w', p v w → Cel w w' → p v w') : PhC (.pred p) := h
def allC : List Ph → Prop
 | [] => True
 | q :: r => PhC q ∧ allC r
theorem allC.at : ∀ {l : List Ph}, allC l → ∀ i, PhC (l.getD i (.eq undef))
 | [], _, _ => by simpa using PhC.eq undef
 | _ :: _, h, 0 => by simpa using h.1
 | _ :: _, h, i + 1 => by simpa using allC.at h.2 i
theorem Ge : ∀ {l r : Env} {t : Nat}, lk l t = none → lk (l ++ r) t = lk r t
 | [], _, _, _ => rfl
 | (j, q) :: l, r, t, h => by
   by_cases e : t = j
   · subst e; rw [Bh] at h; cases h
   rw [Bj e] at h
   rw [List.cons_append, Bj e]
   exact Ge h
theorem Ks : ∀ {l r : Env} {t : Nat} {q : Ph}, lk l t = some q → lk (l ++ r) t = some q
 | [], _, _, _, h => by cases h
 | (j, q') :: l, r, t, q, h => by
   by_cases e : t = j
   · subst e; rw [Bh] at h; cases h; rw [List.cons_append, Bh]
   rw [Bj e] at h
   rw [List.cons_append, Bj e]
   exact Ks h
theorem Hf : ∀ {l : Env} {t : Nat} {q : Ph}, (t, q) ∈ l → ∃ q', lk l t = some q'
 | [], _, _, h => by cases h
 | (j, q') :: l, t, q, h => by
   by_cases e : t = j
   · subst e; exact ⟨q', Bh⟩
   rw [Bj e]
   rcases List.mem_cons.1 h with h | h
   · cases h; exact absurd rfl e
   exact Hf h
def TU (P : Program) (n : Nat) (ds : List Deferred) (env : Env) (W : World) (o : Oper) (q : Ph) : Prop := ∀ a, Ag n ds env a W → aO P o a W (fun v W' => Up W W' ∧ q.holds v W')
theorem TU.p {env : Env} {o : Oper} {v : Value} {q : Ph} (h : PEv P n ds env w o v) (hx : q.holds v w) : TU P n ds env w o q := fun a ha => .inl ⟨v, w, h a w ha (Up.refl w), Up.refl w, hx⟩
theorem TU.r {env : Env} {o : Oper} {q : Ph} {Post : Value → World → Prop} (h : REv P n ds env w o Post) (hx : ∀ v W', Post v W' → Up w W' ∧ q.holds v W') : TU P n ds env w o q := fun a ha =>
 let ⟨v, W', hr, hp⟩ := h a ha
 .inl ⟨v, W', hr, hx v W' hp⟩
theorem TU.c {env : Env} {o : Oper} {q : Ph} {f : FuncId} {args : Array Value} {Post : Value → World → Prop} (he : ∀ a, Ag n ds env a w → (execOp a.eval o).run P w = .ok (.enter f args) w) (hc : Ret P f args w Post) (hx : ∀ v W', Post v W' → Up w W' ∧ q.holds v W') : TU P n ds env w o q := fun a ha =>
 .inr ⟨f, args, w, he a ha, hc.mono hx⟩
theorem TU.open {env : Env} {o : Oper} {q : Ph} {d : Nat} {p : Value → World → Prop} (hp : lk env d = some (.pred p)) (h : ∀ v, p v w → TU P n ds ((d, .eq v) :: env) w o q) : TU P n ds env w o q := fun a ha =>
 h _ (ha.val d _ hp) a ⟨ha.defers, ha.size, fun i ph hi => by
   by_cases e : i = d
   · subst e
     rw [Bh] at hi
     cases hi
     rfl
   rw [Bj e] at hi
   exact ha.val i ph hi⟩
theorem jB {id : Nat} {opsL : List Oper} (k m0 ms : Nat) (J : List (Nat × Int × Nat)) (phs : List Ph) {T K E : Nat} (hT : P.underlying T = some (.map K E)) (hK : P.underlying K = some (.int .i64)) (hm : P.follows .mixedOrders = true) (hl : Cf l = true)
   (hA : D7 opsL.toArray = true) (hC : (Nat.beq k opsL.toArray.size || Fh opsL.toArray k) = true) (hF : Jl opsL.toArray k = true) (hks : Nat.ble k opsL.toArray.size = true) (hD : G2 n opsL.toArray 0 k = true) (hlit : Og opsL.toArray m0 J = true) (hTl : G0 opsL.toArray k = true)
   (hfree : Kr l (opsL.take k) = true) (hJ : (decide (J.map (·.1)).Nodup && (decide (J.map (·.2.1)).Nodup && (J.all fun j => Nat.ble (j.1 + 1) k) && Nat.ble (m0 + 1) k)) = true)
   (hm0 : ∃ ty ps, opsL[m0]? = some ⟨some ms, .makeMap T none, ty, ps, #[], none⟩) (hph : allC phs) (hmp : ∀ b W, (phs.getD m0 (.eq undef)).holds (.map (some b)) W)
   (hop : ∀ W, Cel w.drew W → allL (fun i o => (i = m0 ∨ (J.any fun j => Nat.beq j.1 i) = true ∧ ∀ j ∈ J, j.1 = i → ∃ ty ps af, o = ⟨none, .insert T (.tmp ms) (.const (vi j.2.1)) (.tmp j.2.2), ty, ps, af, none⟩) ∨ (o.guard = none ∧ (J.any fun j => Nat.beq j.1 i) = false ∧ TU P n ds (Ml opsL.toArray (fun i => phs.getD i (.eq undef)) 0 o ++ l) W o (phs.getD i (.eq undef)))) 0 (opsL.take k))
   (hend : ∀ W b kv (g : Nat → Value), Up w.drew W → IMap W b kv → kv.Perm (J.map fun j => (j.2.1, g j.2.2)) → (∀ i o d, i < k → opsL[i]? = some o → o.dst = some d → (phs.getD i (.eq undef)).holds (g d) W) → LW R m P n ds opsL.toArray Q (opsL.drop k) ((ms, .eq (.map (some b))) :: l) W) :
   CW R m P n ds (.region id opsL.toArray true) Q l w := by
 simp only [Bool.and_eq_true, decide_eq_true_eq] at hJ
 obtain ⟨hJi, ⟨hJk, hJl⟩, hm0k⟩ := hJ
 have hks' : k ≤ opsL.length := by have := Nat.le_of_ble_eq_true hks; simp at this; omega
 have hJl' : ∀ j ∈ J, j.1 < k := fun j hj => Nat.le_of_ble_eq_true (List.all_eq_true.1 hJl j hj)
 have sub : ∀ j o, j < k → opsL.toArray[j]? = some o → (opsL.take k)[j]? = some o := fun j o hjk ho => by
   rw [List.getElem?_take_of_lt hjk]; simpa using ho
 have hbd : ∀ i ph, lk l i = some ph → ∀ (j : Nat) (o : Oper), 0 ≤ j → j < k → opsL.toArray[j]? = some o → o.dst ≠ some i := fun i ph hi j o _ hjk ho => Gu hfree hi (List.mem_of_getElem? (sub j o hjk ho))
 have any_iff : ∀ i, (J.any fun j => Nat.beq j.1 i) = true ↔ i ∈ J.map (·.1) := fun i => by
   rw [List.any_eq_true, List.mem_map]
   exact ⟨fun ⟨j, hj, h⟩ => ⟨j, hj, Nat.eq_of_beq_eq_true h⟩, fun ⟨j, hj, h⟩ => ⟨j, hj, by rw [h]; simp⟩⟩
 refine Fl hm hl fun fuel listed a hf hu ha => (AWF.bG (T := T) (K := K) (E := E) (m0 := m0) (ms := ms) (J := J) (k := k) (fun i => phs.getD i (.eq undef)) (f0 := fun t => a.tmps.getD t undef) hT hK (fun i v w w' h u => (hph.at i) v w w' h u) hA hC hF hks hD hl hbd hlit hJi hJk hJl' (Nat.le_of_ble_eq_true hm0k) (by simpa using hm0) ?_ hmp ?_ ?_ fuel listed a hf hu ha (fun _ => rfl))
 · intro j hj
   obtain ⟨oj, hoj, _⟩ := G4 hlit hj
   have := (hop w.drew (Cel.refl _)).at (sub j.1 oj (hJl' j hj) hoj)
   rw [Nat.zero_add] at this
   rcases this with (e | ⟨_, h⟩) | ⟨_, h, _⟩
   · exfalso
     obtain ⟨ty, ps, hm0⟩ := hm0
     obtain ⟨o', ho', hd', _⟩ := G4 hlit hj
     rw [e] at ho'
     have : opsL[m0]? = some o' := by simpa using ho'
     rw [hm0] at this; cases this; cases hd'
   · obtain ⟨ty, ps, af, ho⟩ := h j hj rfl
     exact ⟨ty, ps, af, by rw [hoj, ho]⟩
   rw [(any_iff j.1).2 (List.mem_map.2 ⟨j, hj, rfl⟩)] at h; cases h
 · intro i o hik hne hnj ho
   have h0 := (hop w.drew (Cel.refl _)).at (sub i o hik ho)
   rw [Nat.zero_add] at h0
   rcases h0 with (e | ⟨h, _⟩) | ⟨hg, _, _⟩
   · exact absurd e hne
   · exact absurd ((any_iff i).1 h) hnj
   refine ⟨hg, fun W hW a ha => ?_⟩
   have h1 := (hop W hW).at (sub i o hik ho)
   rw [Nat.zero_add] at h1
   rcases h1 with (e | ⟨h, _⟩) | ⟨_, _, h⟩
   · exact absurd e hne
   · exact absurd ((any_iff i).1 h) hnj
   exact h a ha
 intro f W b kv hUp hfm hM hperm fuel' listed' a' hf' hu' ha' hsl'
 have key : ∀ i o d, i < k → opsL[i]? = some o → o.dst = some d → (phs.getD i (.eq undef)).holds (f d) W := by
   intro i o d hik ho hd
   have ho' : opsL.toArray[i]? = some o := by simpa using ho
   have hmem : (d, phs.getD i (.eq undef)) ∈ He opsL.toArray (fun i => phs.getD i (.eq undef)) 0 k := by
     unfold He
     rw [List.mem_filterMap]
     exact ⟨i, List.mem_range.2 hik, by rw [if_pos (by simp), ho']; simp [hd]⟩
   obtain ⟨q', hq⟩ := Hf hmem
   obtain ⟨j, p, _, hjk, hp, hpd, e⟩ := Fo hq
   have : j = i := by
     by_cases ee : j = i
     · exact ee
     exact absurd hpd ((Dk hD (Nat.zero_le _) hik ho' hd).2 j p (Nat.zero_le _) hjk ee hp)
   subst this
   have := ha'.val d q' (Ks hq)
   rw [hsl', e] at this
   exact this
 refine Fm hTl hA (opsL.toArray.size - k) k fuel' listed' a' W rfl (by simp; omega) (Nat.le_refl _) hf' hu' ?_
 have h2 := hend W b kv f hUp hM hperm key
 refine h2 a' ⟨ha'.defers, ha'.size, fun t q ht => ?_⟩
 by_cases e : t = ms
 · subst e; rw [Bh] at ht; cases ht
   exact (hsl' _).trans hfm
 rw [Bj e] at ht
 refine ha'.val t q ?_
 rw [Ge]
 · exact ht
 cases hq : lk (He opsL.toArray (fun i => phs.getD i (.eq undef)) 0 k) t with
 | none => rfl
 | some q' =>
   obtain ⟨j, p, _, hjk, hp, hpd, _⟩ := Fo hq
   exact absurd hpd (hbd t q ht j p (Nat.zero_le _) hjk hp)
theorem PEv.D0 {d : Option Tmp} {ty : TypeId} {ps : String} {af : Array Edge} {g : Option (Nat × Bool)} {T K E : TypeId} {mo x : Operand} {b : Nat} {k : Int} {v : Value} {kv : List (Int × Value)} {ok : Bool} (hT : P.underlying T = some (.map K E)) (hK : P.underlying K = some (.int .i64)) (hm : Val l mo (.map (some b))) (hx : Val l x (vi k)) (h : IMap w b kv) (hkv : (k, v) ∈ kv) :
   PEv P n ds l w ⟨d, .lookup T mo x ok, ty, ps, af, g⟩ (if ok then .tuple #[v, .bool true] else v) := fun a w' ha hu => by
 obtain ⟨es, clock, hb, hs, he⟩ := h.up hu
 have hk : IsKey (.int .i64) (vi k) := rfl
 refine Cm ?_
 rw [ha.ev hm, ha.ev hx]
 rcases findNow_spec hk es.toList 0 (Ha he) with ⟨h1, h2⟩ | ⟨j, e, h1, h2, h3⟩
 · exfalso
   obtain ⟨x', hx', hkx, _⟩ := D9 he hkv
   exact h2 x' hx' hkx
 obtain ⟨x', hx', hkx, hvx⟩ := D9 he hkv
 have hv : e.val = v := by
   have := Ea (List.pairwise_map.1 hs.2.2) (List.mem_of_getElem? h2) hx' (by rw [h3, hkx])
   rw [this]; exact hvx
 cases ok <;> simp [Instr.lookup, run_underlying hT, MapKept.run_getObj_map hb, MapKept.run_checkKey hK hk, MapKept.run_findKey hK h1, Result.andThen, hv]
theorem PEv.Gf {d : Option Tmp} {ty : TypeId} {ps : String} {af : Array Edge} {g : Option (Nat × Bool)} {T K E : TypeId} {mo x : Operand} {b : Nat} {k : Int} {z : Value} {kv : List (Int × Value)} {ok : Bool} (hT : P.underlying T = some (.map K E)) (hK : P.underlying K = some (.int .i64)) (hz : ∀ w, (zeroValue E).run P w = .ok z w) (hm : Val l mo (.map (some b))) (hx : Val l x (vi k)) (h : IMap w b kv) (hkv : k ∉ kv.map (·.1)) :
   PEv P n ds l w ⟨d, .lookup T mo x ok, ty, ps, af, g⟩ (if ok then .tuple #[z, .bool false] else z) := fun a w' ha hu => by
 obtain ⟨es, clock, hb, hs, he⟩ := h.up hu
 have hk : IsKey (.int .i64) (vi k) := rfl
 refine Cm ?_
 rw [ha.ev hm, ha.ev hx]
 rcases findNow_spec hk es.toList 0 (Ha he) with ⟨h1, h2⟩ | ⟨j, e, h1, h2, h3⟩
 · cases ok <;> simp [Instr.lookup, run_underlying hT, MapKept.run_getObj_map hb, MapKept.run_checkKey hK hk, MapKept.run_findKey hK h1, Result.andThen, hz]
 exfalso
 obtain ⟨k', hk', hkv'⟩ := Ft he e (List.mem_of_getElem? h2)
 have : k' = k := aP (hk'.symm.trans h3)
 exact hkv (List.mem_map.2 ⟨_, hkv', this⟩)
theorem HF {base done : Env} {w0 : World} {o : Oper} {rest : List Oper} {K : Env → Prop} {d : Nat} {p : Value → World → Prop} {f : FuncId} {args : Array Value} (hp : ∀ v w w', p v w → Up w w' → p v w') (he : ∀ a w, Up w0 w → Ag n ds (Bq (o.looksAt ops) done ++ base) a w → (execOp a.eval o).run P w = .ok (.enter f args) w) (hg : o.guard = none) (hd : o.dst = some d)
   (hc : ∀ w, Up w0 w → Ret P f args w fun v w' => Up w w' ∧ p v w') (k : HW P n ds ops base w0 ((d, .pred p) :: done) rest K) : HW P n ds ops base w0 done (o :: rest) K :=
 ⟨.pred p, d, hd, hp, fun a w hu ha => by
   rw [if_pos (by simp [Region.wanted, hg])]
   exact .inr ⟨f, args, w, he a w hu ha, (hc w hu).mono fun v w' ⟨h1, h2⟩ => ⟨h1, h2⟩⟩, k⟩
def SlT {α : Type} (e : TypeId) (w : World) (v : Value) (k : Nat) (enc : α → Array Value) (xs : List α) : Prop := Sl w v k enc xs ∧ ∀ B o n c, v = .slice (some ⟨B, o, none⟩) n c → ∃ cs x, w.heap[B]? = some (Obj.cells cs e x)
theorem SlT.G3 {α : Type} {e : TypeId} {w w' : World} {v : Value} {k : Nat} {enc : α → Array Value} {xs : List α} (h : SlT e w v k enc xs) (u : Cel w w') : SlT e w' v k enc xs := ⟨h.1.G3 u, fun B o n c hv => let ⟨cs, x, hb⟩ := h.2 B o n c hv; ⟨cs, x, u.blk _ _ _ _ hb⟩⟩
theorem SlT.up {α : Type} {e : TypeId} {w w' : World} {v : Value} {k : Nat} {enc : α → Array Value} {xs : List α} (h : SlT e w v k enc xs) (u : Up w w') : SlT e w' v k enc xs := h.G3 u.G3
theorem SlT.lit {α : Type} {T : TypeId} {w w' : World} {k : Nat} {enc : α → Array Value} {xs : List α} {v : Value} (h : NewSl w T k enc xs v w') : SlT T w' v k enc xs := by
 have h2 := h.q.2
 obtain ⟨B, cs, rfl, N, _, _⟩ := h
 exact ⟨h2, fun B' o n c hv => by cases hv; exact ⟨cs, _, N.blk⟩⟩
theorem SlT.own {α : Type} {base : Nat} {e : TypeId} {w : World} {v : Value} {k : Nat} {enc : α → Array Value} {xs : List α} (h : OwnS w base e k enc v xs) (hk : ∀ x, (enc x).size = k) : SlT e w v k enc xs := by
 refine ⟨h.sl hk, fun B o n c hv => ?_⟩
 obtain ⟨_, h2⟩ := h
 rcases h2 with ⟨rfl, _⟩ | ⟨g, cap, cur, rfl, hb, hg, _⟩
 · cases hv
 cases hv; exact ⟨_, _, hg⟩
theorem Cg {α : Type} (e : TypeId) (k : Nat) (enc : α → Array Value) (xs : List α) : PhC (.pred fun v w => SlT e w v k enc xs) := fun _ _ _ h u => SlT.G3 h u
end
end Go.Wx
namespace Go.Wx
open Go.RowKit
structure KeepT (T : TypeId) (w w' : World) : Prop where
 size : w.heap.size ≤ w'.heap.size
 obj : ∀ (b : Nat) (o : Obj), w.heap[b]? = some o → (∀ cs x, o ≠ Obj.cells cs T x) → w'.heap[b]? = some o
theorem KeepT.refl (T : TypeId) (w : World) : KeepT T w w := ⟨Nat.le_refl _, fun _ _ h _ => h⟩
theorem KeepT.trans {T : TypeId} {w w1 w2 : World} (h : KeepT T w w1) (k : KeepT T w1 w2) : KeepT T w w2 := ⟨Nat.le_trans h.size k.size, fun b o hb hn => k.obj b o (h.obj b o hb hn) hn⟩
theorem Up.Df {T : TypeId} {w w' : World} (u : Up w w') : KeepT T w w' := ⟨u.size, fun _ _ h _ => (u.block (lt_of_block h)).trans h⟩
theorem Sto.Df {T : TypeId} {w w' : World} {B : Nat} {cs : Array Value} (u : Sto B w w') (hz : w.heap.size ≤ w'.heap.size) (hb : Blk w B cs T) : KeepT T w w' := ⟨hz, fun b o h hn => by
 by_cases e : b = B
 · subst e; unfold Blk at hb; rw [hb] at h; cases h; exact absurd rfl (hn _ _)
 exact (u.block b (lt_of_block h) e).trans h⟩
theorem Blk.Df {T e : TypeId} {w w' : World} {B : Nat} {cs : Array Value} (h : Blk w B cs e) (hne : Nat.beq e T = false) (u : KeepT T w w') : Blk w' B cs e := u.obj _ _ h (fun _ _ e' => by cases e'; simp at hne)
theorem IMap.Df {T : TypeId} {w w' : World} {b : Nat} {kv : List (Int × Value)} (h : IMap w b kv) (u : KeepT T w w') : IMap w' b kv := by
 obtain ⟨es, clock, h1, h2⟩ := h
 exact ⟨es, clock, u.obj _ _ h1 (fun _ _ e => by cases e), h2⟩
theorem SlT.Df {α : Type} {e T : TypeId} {w w' : World} {v : Value} {k : Nat} {enc : α → Array Value} {xs : List α} (h : SlT e w v k enc xs) (hne : Nat.beq e T = false) (u : KeepT T w w') : SlT e w' v k enc xs := by
 have hne : e ≠ T := fun e' => by rw [e'] at hne; simp at hne
 obtain ⟨⟨ad, c, rfl, hE⟩, ht⟩ := h
 have keep : ∀ B o, ad = some ⟨B, o, none⟩ → ∃ cs x, w.heap[B]? = some (Obj.cells cs e x) ∧ w'.heap[B]? = some (Obj.cells cs e x) := fun B o hB => by
   obtain ⟨cs, x, hb⟩ := ht B o _ _ (by rw [hB])
   exact ⟨cs, x, hb, u.obj _ _ hb (fun _ _ e' => by cases e'; exact hne rfl)⟩
 refine ⟨⟨ad, c, rfl, fun i x hx => ?_⟩, fun B o n c' hv => ?_⟩
 · obtain ⟨B, o, hB, hA⟩ := hE i x hx
   obtain ⟨cs, y, h1, h2⟩ := keep B o hB
   refine ⟨B, o, hB, fun j v hv => ?_⟩
   have := hA j v hv
   unfold World.cell? at this ⊢
   rw [h1] at this
   rw [h2]
   exact this
 cases hv
 obtain ⟨cs, x, h1, h2⟩ := keep B o rfl
 exact ⟨cs, x, h2⟩
section
variable {R : Option Nat} {m : Nat} {P : Program} {n : Nat} {ds : List Deferred} {Q : Exit → Go.Act → World → Prop} {l : Env} {w : World} {ops : Array Oper}
def sT (ia is sa sv : Nat) (T : TypeId) (z : Array Value) (w0 : World) (L : Nat → Bool) (f : Nat → Value) (W : World) : Prop :=
 Up w0 W ∧ (L is = true → L ia = true) ∧ (L ia = true → ∃ B, f sa = .pointer (some ⟨B, 0, none⟩) ∧ w0.heap.size ≤ B ∧ Blk W B (if L is = true then (f sv).cells else z) T)
theorem AWF.box {k ia is isv sa sv : Nat} {T : TypeId} {z : Array Value} {base : Env} (ph : Nat → Ph) {f0 : Nat → Value} (hz : ∀ w, (zeroValue T).run P w = .ok (.agg z) w) (hs : ∀ w, (sizeOf T).run P w = .ok z.size w)
   (hph : ∀ i v w w', (ph i).holds v w → KeepT T w w' → (ph i).holds v w') (hA : D7 ops = true) (hC : (Nat.beq k ops.size || Fh ops k) = true) (hF : Jl ops k = true) (hks : Nat.ble k ops.size = true)
   (hD : G2 n ops 0 k = true) (hbp : Cf base = true) (hbd : ∀ i ph, lk base i = some ph → ∀ (j : Nat) (o : Oper), 0 ≤ j → j < k → ops[j]? = some o → o.dst ≠ some i)
   (hlit : Og ops ia [(is, 0, sv)] = true) (hik : is < k) (hiak : ia < k) (hne : ia ≠ is)
   (hia : ∃ ty ps af, ops[ia]? = some ⟨some sa, .alloc T, ty, ps, af, none⟩) (his : ∃ ty ps af, ops[is]? = some ⟨none, .store T (.tmp sa) (.tmp sv), ty, ps, af, none⟩)
   (hlk : ∀ o, ops[is]? = some o → lk (Ml ops ph 0 o ++ base) sv = some (ph isv)) (hsv : ∀ v W, (ph isv).holds v W → ∃ cs, v = .agg cs ∧ cs.size = z.size ∧ cs.all (·.oneCell') = true)
   (hpa : ∀ B W, (ph ia).holds (.pointer (some ⟨B, 0, none⟩)) W)
   (hop : ∀ i o, i < k → i ≠ ia → i ≠ is → ops[i]? = some o → o.guard = none ∧ ∀ W, KeepT T w W → ∀ a, Ag n ds (Ml ops ph 0 o ++ base) a W → aO P o a W (fun v W' => Up W W' ∧ (ph i).holds v W'))
   (hend : ∀ f W B, Up w W → f sa = .pointer (some ⟨B, 0, none⟩) → w.heap.size ≤ B → Blk W B (f sv).cells T → AWF R m P n ds ops Q k (He ops ph 0 k ++ base) f W) : AWF R m P n ds ops Q 0 base f0 w := by
 obtain ⟨os, hos, hods, ⟨e, he, hbe, hon⟩, ⟨e', he', hbe', pv, hpv, hpvd⟩⟩ := G4 hlit List.mem_cons_self
 refine Jm ph (KeepT T) (sT ia is sa sv T z w) (KeepT.refl T) (fun _ _ _ => KeepT.trans) hph hA hC hF hks (by simp) hD hbp hbd ?_ ⟨Up.refl w, fun h => by simp at h, fun h => by simp at h⟩ ?_
 · intro i o _ hi hio L f W hRel hDn hLi hed hInv
   obtain ⟨hUp, hsa, hInv⟩ := hInv
   by_cases e0 : i = ia
   · subst e0
     obtain ⟨ty, ps, af, hia⟩ := hia
     rw [hio] at hia; cases hia
     intro a ha hsl
     rw [if_pos (by simp [Region.wanted])]
     obtain ⟨v, W', hr, B, rfl, N⟩ := REv.Bm (P := P) (n := n) (ds := ds) (l := Ml ops ph 0 _ ++ base) (w := W) (d := some sa) (ty := ty) (ps := ps) (af := af) (g := none) hz a ha
     have hLs : L is = false := by
       cases h : L is with
       | false => rfl
       | true => rw [hsa h] at hLi; cases hLi
     refine .inl (.inl ⟨_, W', hr, N.up.Df, fun _ _ => hpa B W', hUp.trans N.up, fun _ => by simp [C9], fun _ => ⟨B, by simp [Fe], by rw [N.at_]; exact hUp.size, ?_⟩⟩)
     have : C9 L i is = false := by simp [C9, Ne.symm hne, hLs]
     rw [this]
     exact N.blk
   by_cases e1 : i = is
   · subst e1
     have hLa : L ia = true := by rw [hos] at hio; cases hio; rw [← hon]; exact hed e he hbe
     obtain ⟨ty, ps, af, his⟩ := his
     rw [hio] at his; cases his
     intro a ha hsl
     rw [if_pos (by simp [Region.wanted])]
     obtain ⟨B, h1, hB, hblk⟩ := hInv hLa
     rw [hLi] at hblk
     obtain ⟨cs, hcs, hcz, hc1⟩ := hsv _ W (ha.val sv _ (hlk _ hio))
     have hfs : f sv = .agg cs := by rw [← hsl]; exact hcs
     have hag : Ag n ds [(sv, .eq (.agg cs)), (sa, .eq (.pointer (some ⟨B, 0, none⟩)))] a W := by
       refine ⟨ha.defers, ha.size, fun t q ht => ?_⟩
       by_cases e1 : t = sv
       · subst e1; rw [Bh] at ht; cases ht; exact hcs
       rw [Bj e1] at ht
       by_cases e2 : t = sa
       · subst e2; rw [Bh] at ht; cases ht; exact (hsl _).trans h1
       rw [Bj e2] at ht; cases ht
     have hsn : sa ≠ sv := fun e' => by rw [e', hfs] at h1; cases h1
     obtain ⟨W', hr, hset⟩ := SEv.Bi (P := P) (n := n) (ds := ds) (w := W) (l := [(sv, .eq (.agg cs)), (sa, .eq (.pointer (some ⟨B, 0, none⟩)))]) (x := .tmp sa) (y := .tmp sv) (ty := ty) (ps := ps) (af := af) (g := none) hs hcz (.tmp (by rw [Bj hsn, Bh])) (.tmp Bh) hc1 hblk (by simp) a hag
     refine .inr ⟨W', hr, hset.sto.Df (by rw [hset.size]; exact Nat.le_refl _) hblk, (fun d hd => by cases hd), hUp.sto hset.sto hB, fun _ => by simp [C9, hLa], fun _ => ⟨B, h1, hB, ?_⟩⟩
     have h2 : C9 L i i = true := by simp [C9]
     rw [h2, if_pos rfl]
     show Blk W' B (f sv).cells T
     rw [hfs]
     exact hset.blk
   obtain ⟨hg, hop⟩ := hop i o hi e0 e1 hio
   intro a ha hsl
   rw [if_pos (by simp [Region.wanted, hg])]
   have done : ∀ v W', Up W W' ∧ (ph i).holds v W' → KeepT T W W' ∧ (∀ d, o.dst = some d → (ph i).holds v W') ∧ sT ia is sa sv T z w (C9 L i) (Fe f o.dst v) W' := by
     rintro v W' ⟨hu, hv⟩
     have ela : C9 L i ia = L ia := by simp [C9, Ne.symm e0]
     have els : C9 L i is = L is := by simp [C9, Ne.symm e1]
     refine ⟨hu.Df, fun _ _ => hv, hUp.trans hu, fun h => by rw [ela]; rw [els] at h; exact hsa h, fun hm => ?_⟩
     rw [ela] at hm
     obtain ⟨B, h1, hB, hblk⟩ := hInv hm
     have hn1 : o.dst ≠ some sa := by
       obtain ⟨ty, ps, af, hia⟩ := hia
       intro ed
       exact (Dk hD (Nat.zero_le _) hi hio ed).2 ia _ (Nat.zero_le _) hiak (Ne.symm e0) hia rfl
     refine ⟨B, by simpa [Fe, hn1] using h1, hB, ?_⟩
     rw [els]
     cases hLs : L is with
     | false => rw [hLs] at hblk; exact hblk.up hu
     | true =>
       rw [hLs] at hblk
       have hn2 : o.dst ≠ some sv := by
         intro ed
         have h2 := hDn _ _ hos hLs e' he' hbe'
         have h3 := Dx hA hos e' he' hbe'
         by_cases ee : e'.on = i
         · rw [ee, hLi] at h2; cases h2
         exact (Dk hD (Nat.zero_le _) hi hio ed).2 e'.on pv (Nat.zero_le _) (by have : e'.on < is := h3; omega) ee hpv hpvd
       have h4 : Fe f o.dst v sv = f sv := by simp [Fe, hn2]
       rw [h4]
       exact hblk.up hu
   rcases hop W hRel a ha with ⟨v, W', hr, hp⟩ | ⟨fn, args, w1, hr, hc⟩
   · exact .inl (.inl ⟨v, W', hr, done v W' hp⟩)
   exact .inl (.inr ⟨fn, args, w1, hr, hc.mono done⟩)
 intro f W hRel hInv
 obtain ⟨hUp, _, hInv⟩ := hInv
 obtain ⟨B, h1, hB, h2⟩ := hInv (by simpa using hiak)
 rw [if_pos (by simpa using hik)] at h2
 exact hend f W B hUp h1 hB h2
def PhT (T : TypeId) (q : Ph) : Prop := ∀ v w w', q.holds v w → KeepT T w w' → q.holds v w'
theorem PhT.eq (T : TypeId) (v : Value) : PhT T (.eq v) := fun _ _ _ h _ => h
theorem PhT.pred {T : TypeId} {p : Value → World → Prop} (h : ∀ v w w', p v w → KeepT T w w' → p v w') : PhT T (.pred p) := h
def allT (T : TypeId) : List Ph → Prop
 | [] => True
 | q :: r => PhT T q ∧ allT T r
theorem allT.at {T : TypeId} : ∀ {l : List Ph}, allT T l → ∀ i, PhT T (l.getD i (.eq undef))
 | [], _, _ => by simpa using PhT.eq T undef
 | _ :: _, h, 0 => by simpa using h.1
 | _ :: _, h, i + 1 => by simpa using allT.at h.2 i
theorem CW.box {id : Nat} {opsL : List Oper} (k ia is isv sa sv : Nat) (z : Array Value) (phs : List Ph) (keep : List Nat) {T : TypeId} (hz : ∀ w, (zeroValue T).run P w = .ok (.agg z) w) (hs : ∀ w, (sizeOf T).run P w = .ok z.size w) (hm : P.follows .mixedOrders = true) (hl : Cf l = true)
   (hA : D7 opsL.toArray = true) (hC : (Nat.beq k opsL.toArray.size || Fh opsL.toArray k) = true) (hF : Jl opsL.toArray k = true) (hks : Nat.ble k opsL.toArray.size = true) (hD : G2 n opsL.toArray 0 k = true) (hlit : Og opsL.toArray ia [(is, 0, sv)] = true) (hTl : G0 opsL.toArray k = true)
   (hfree : Kr l (opsL.take k) = true) (hidx : (Nat.ble (is + 1) k && (Nat.ble (ia + 1) k && !Nat.beq ia is)) = true)
   (hia : ∃ ty ps af, opsL[ia]? = some ⟨some sa, .alloc T, ty, ps, af, none⟩) (os : Oper) (hos : opsL[is]? = some os) (his : ∃ ty ps af, os = ⟨none, .store T (.tmp sa) (.tmp sv), ty, ps, af, none⟩) (hph : allT T phs)
   (hlk : lk (Ml opsL.toArray (fun i => phs.getD i (.eq undef)) 0 os ++ l) sv = some (phs.getD isv (.eq undef))) (hsv : ∀ v W, (phs.getD isv (.eq undef)).holds v W → ∃ cs, v = .agg cs ∧ cs.size = z.size ∧ cs.all (·.oneCell') = true)
   (hpa : ∀ B W, (phs.getD ia (.eq undef)).holds (.pointer (some ⟨B, 0, none⟩)) W)
   (hop : ∀ W, KeepT T w.drew W → allL (fun i o => (i = ia ∨ i = is) ∨ (o.guard = none ∧ TU P n ds (Ml opsL.toArray (fun i => phs.getD i (.eq undef)) 0 o ++ l) W o (phs.getD i (.eq undef)))) 0 (opsL.take k))
   (hend : ∀ W B (g : Nat → Value), Up w.drew W → w.drew.heap.size ≤ B → Blk W B (g sv).cells T → (∀ i o d, i < k → opsL[i]? = some o → o.dst = some d → (phs.getD i (.eq undef)).holds (g d) W) → LW R m P n ds opsL.toArray Q (opsL.drop k) ((sa, .eq (.pointer (some ⟨B, 0, none⟩))) :: (keep.map (fun d => (d, .eq (g d))) ++ l)) W) :
   CW R m P n ds (.region id opsL.toArray true) Q l w := by
 simp only [Bool.and_eq_true] at hidx
 obtain ⟨hik, hiak, hne⟩ := hidx
 have hik : is < k := Nat.le_of_ble_eq_true hik
 have hiak : ia < k := Nat.le_of_ble_eq_true hiak
 have hne : ia ≠ is := fun e => by subst e; simp at hne
 have hks' : k ≤ opsL.length := by have := Nat.le_of_ble_eq_true hks; simp at this; omega
 have sub : ∀ j o, j < k → opsL.toArray[j]? = some o → (opsL.take k)[j]? = some o := fun j o hjk ho => by
   rw [List.getElem?_take_of_lt hjk]; simpa using ho
 have hbd : ∀ i ph, lk l i = some ph → ∀ (j : Nat) (o : Oper), 0 ≤ j → j < k → opsL.toArray[j]? = some o → o.dst ≠ some i := fun i ph hi j o _ hjk ho => Gu hfree hi (List.mem_of_getElem? (sub j o hjk ho))
 refine Fl hm hl fun fuel listed a hf hu ha => (AWF.box (k := k) (ia := ia) (is := is) (isv := isv) (sa := sa) (sv := sv) (T := T) (z := z) (fun i => phs.getD i (.eq undef)) (f0 := fun t => a.tmps.getD t undef) hz hs (fun i v w w' h u => (hph.at i) v w w' h u) hA hC hF hks hD hl hbd hlit hik hiak hne (by simpa using hia) ?_ ?_ hsv hpa ?_ ?_ fuel listed a hf hu ha (fun _ => rfl))
 · obtain ⟨ty, ps, af, e⟩ := his
   exact ⟨ty, ps, af, by rw [← e]; simpa using hos⟩
 · intro o ho
   have : opsL[is]? = some o := by simpa using ho
   rw [hos] at this; cases this
   exact hlk
 · intro i o hi h1 h2 ho
   have h0 := (hop w.drew (KeepT.refl T _)).at (sub i o hi ho)
   rw [Nat.zero_add] at h0
   rcases h0 with (e | e) | ⟨hg, _⟩
   · exact absurd e h1
   · exact absurd e h2
   refine ⟨hg, fun W hW a ha => ?_⟩
   have h3 := (hop W hW).at (sub i o hi ho)
   rw [Nat.zero_add] at h3
   rcases h3 with (e | e) | ⟨_, h⟩
   · exact absurd e h1
   · exact absurd e h2
   exact h a ha
 intro f W B hUp hfa hB hblk fuel' listed' a' hf' hu' ha' hsl'
 have key : ∀ i o d, i < k → opsL[i]? = some o → o.dst = some d → (phs.getD i (.eq undef)).holds (f d) W := by
   intro i o d hik ho hd
   have ho' : opsL.toArray[i]? = some o := by simpa using ho
   have hmem : (d, phs.getD i (.eq undef)) ∈ He opsL.toArray (fun i => phs.getD i (.eq undef)) 0 k := by
     unfold He
     rw [List.mem_filterMap]
     exact ⟨i, List.mem_range.2 hik, by rw [if_pos (by simp), ho']; simp [hd]⟩
   obtain ⟨q', hq⟩ := Hf hmem
   obtain ⟨j, p, _, hjk, hp, hpd, e⟩ := Fo hq
   have : j = i := by
     by_cases ee : j = i
     · exact ee
     exact absurd hpd ((Dk hD (Nat.zero_le _) hik ho' hd).2 j p (Nat.zero_le _) hjk ee hp)
   subst this
   have := ha'.val d q' (Ks hq)
   rw [hsl', e] at this
   exact this
 refine Fm hTl hA (opsL.toArray.size - k) k fuel' listed' a' W rfl (by simp; omega) (Nat.le_refl _) hf' hu' (hend W B f hUp hB hblk key a' ⟨ha'.defers, ha'.size, fun t q ht => ?_⟩)
 by_cases e : t = sa
 · subst e; rw [Bh] at ht; cases ht
   exact (hsl' _).trans hfa
 rw [Bj e] at ht
 rcases Cy ht with h | h
 · obtain ⟨d, _, he⟩ := List.mem_map.1 (Kq h)
   cases he
   exact hsl' _
 refine ha'.val t q ?_
 rw [Ge]
 · exact h
 cases hq : lk (He opsL.toArray (fun i => phs.getD i (.eq undef)) 0 k) t with
 | none => rfl
 | some q' =>
   obtain ⟨j, p, _, hjk, hp, hpd, _⟩ := Fo hq
   exact absurd hpd (hbd t q h j p (Nat.zero_le _) hjk hp)
end
end Go.Wx
