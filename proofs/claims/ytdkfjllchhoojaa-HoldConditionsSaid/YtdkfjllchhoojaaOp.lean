import Derived.Test.YtdkfjllchhoojaaHo9
import Derived.ProofKit
import Derived.OpenShut
namespace Go.Wx
open Go.ChangeShapes Go.WideShapes Go.RowKit

section
variable {H : Type} {enc : TypeId × Value → H} {P : Program}
def scalarTy (P : Program) (t : TypeId) : Bool := match P.underlying t with
  | some (.int _) => true
  | some .bool => true
  | some .string => true
  | _ => false
theorem scalar_any {w w' : World} {b b' : Nat} {sp sp' : Nat → Bool} {h h' : Bool} {n : Nat} {t : TypeId} {cs : List Value} {x : DataW H × List MemPlace} (hs : scalarTy P t = true) (hx : DataW.trod enc P w b sp h n t cs = some x) : x.2 = [] ∧ DataW.trod enc P w' b' sp' h' n t cs = some x := by
  unfold scalarTy at hs
  cases n with
  | zero => simp [DataW.trod] at hx
  | succ n =>
    split at hs
    · rename_i k hk
      obtain ⟨m, rfl, rfl, hw⟩ := DataW.trod_int hk hx
      exact ⟨rfl, by simp [DataW.trod, hk, hw]⟩
    · rename_i hk
      obtain ⟨m, rfl, rfl⟩ := DataW.trod_bool hk hx
      exact ⟨rfl, by simp [DataW.trod, hk]⟩
    · rename_i hk
      obtain ⟨s, rfl, rfl, hw⟩ := DataW.trod_string hk hx
      exact ⟨rfl, by simp [DataW.trod, hk, hw]⟩
    · cases hs
theorem mapM_of {α β : Type} (g : α → Option β) : ∀ (l : List α) (xs : List β), l.length = xs.length → (∀ (i : Nat) (a : α), l[i]? = some a → g a = xs[i]?) → l.mapM g = some xs
  | [], [], _, _ => rfl
  | a :: l, x :: xs, hl, h => by
    have h0 := h 0 a rfl
    have h1 := mapM_of g l xs (by simpa using hl) (fun i b hb => by simpa using h (i + 1) b (by simpa using hb))
    simp at h0
    simp [List.mapM_cons, h0, h1]
theorem struct_any {w : World} {b : Nat} {sp : Nat → Bool} {hd : Bool} {t : TypeId} {fs : Array Field} {v : Value} {d : DataW H} {p : List MemPlace} (ht : P.underlying t = some (.struct fs)) (hall : fs.all (fun f => scalarTy P f.type) = true) (h : DataW.Trod enc P w b sp hd t v d p) :
    p = [] ∧ ∀ (w' : World) (b' : Nat) (sp' : Nat → Bool) (hd' : Bool), DataW.Trod enc P w' b' sp' hd' t v d [] := by
  obtain ⟨fuel, hf⟩ := h
  obtain ⟨xs, n, rfl, hx, hl, hlen, hg⟩ := DataW.trod_struct ht hf
  simp only [Prod.mk.injEq] at hx
  have hsc : ∀ (i : Nat) (f : Field), fs[i]? = some f → scalarTy P f.type = true := fun i f hi => by
    obtain ⟨hlt, he⟩ := Array.getElem?_eq_some_iff.1 hi
    have := Array.all_eq_true.1 hall i hlt
    rw [he] at this
    exact this
  have hnil : xs.flatMap (·.2) = [] := List.flatMap_eq_nil_iff.2 fun y hy => by
    obtain ⟨i, hi, he⟩ := List.mem_iff_getElem.1 hy
    have hif : i < fs.size := by omega
    have h1 := hg i fs[i] (by simp [hif])
    have h2 : xs[i]? = some y := by simp [hi, he]
    rw [h2] at h1
    exact (scalar_any (w' := w) (b' := b) (sp' := sp) (h' := hd) (hsc i fs[i] (by simp [hif])) h1).1
  refine ⟨by rw [hx.2, hnil], fun w' b' sp' hd' => ⟨n + 1, ?_⟩⟩
  rw [trod_struct_mk (xs := xs) ht hl (mapM_of _ _ _ (by simpa using hlen.symm) fun i f hi => ?_), hx.1, hnil]
  have hi' : fs[i]? = some f := by simpa using hi
  have h1 := hg i f hi'
  have hlt : i < xs.length := by rw [hlen]; exact (Array.getElem?_eq_some_iff.1 hi').1
  have h2 : xs[i]? = some xs[i] := by simp [hlt]
  rw [h2] at h1
  rw [h2]
  exact (scalar_any (hsc i f hi') h1).2
end
theorem wf_inI {n : Int} (h : (Lit.int .i64 n).wf = true) : inI n := by
  have h2 : IntKind.i64.min ≤ n ∧ n ≤ IntKind.i64.max := by simpa [Lit.wf] using h
  exact h2

section
variable {H : Type} {enc : TypeId × Value → H} {P : Program}
/-- WHAT A ROW ASKS behind a call that has laid new blocks alone -/
theorem post_of_up {f : Func} {s : ChangeSpec} {apart fresh handsOn again : Bool} {W W' : World} {args : Array Value} {v : Value} {ds gs : List (DataW H)} {before pa pv : List MemPlace} (hW : DataW.Whole enc P f.params.toList s.vars apart W args.toList ds gs before)
    (hres : ∀ (b : Nat) (sp : Nat → Bool) (hd : Bool), DataW.TrodAll enc P W' b sp hd f.resultTypes.toList (v.resultList f.resultTypes.size) (s.fn H (ds ++ gs)).results [])
    (hargs : ∀ sp : Nat → Bool, (∀ p ∈ before, sp p.block = true) → DataW.TrodAll enc P W' 0 sp true f.params.toList args.toList (s.fn H (ds ++ gs)).args pa) (hvars : ∀ sp : Nat → Bool, (∀ p ∈ before, sp p.block = true) → DataW.TrodVars enc P W' sp s.vars (s.fn H (ds ++ gs)).vars pv)
    (hps : before = pa ++ pv) (hu : Up W W') (hok : ∀ (j : Nat) (t : TypeId) (r : Value), f.resultTypes[j]? = some t → (v.resultList f.resultTypes.size)[j]? = some r → Value.okWide P W' .any 0 t r) :
    s.post enc P f apart fresh handsOn again W args v W' := by
  have hlt : ∀ p ∈ before, p.block < W.heap.size := fun p hp => hW.lt p hp
  have hold : ∀ p ∈ before, (fun b => decide (b < W.heap.size)) p.block = true := fun p hp => by simpa using hlt p hp
  refine ⟨ds, gs, before, [], pa, pv, hW, hres _ _ _, hargs _ hold, hvars _ hold, Below.frame hu _, fun _ => ?_⟩
  obtain ⟨_, _, _, _, _, hz, hn⟩ := hW
  refine ⟨hok, _, _, ([] ++ pa) ++ pv, ⟨[] ++ pa, pv, trodAll_append (hargs _ (fun _ _ => rfl)) (hres _ _ _), hvars _ (fun _ _ => rfl), rfl, ?_, ?_⟩, ?_⟩
  · intro b off hp
    rw [Below.frozen hu (p := ⟨b, off, none⟩) (hlt (.cell b off) (by rw [hps]; simpa using hp))]
    exact hz b off (by rw [hps]; simpa using hp)
  · intro ha
    have := hn ha
    rw [hps] at this
    simpa using this
  · intro p hp _
    rw [hps]
    simpa using hp
end

end Go.Wx
namespace Go.Proofs
open Go.Wx Go.ChangeShapes Go.WideShapes Go.RowKit
theorem Try.openFact {H : Type} {enc : TypeId × Value → H} {w : World} {b b0 : Nat} {sp : Nat → Bool} {hd : Bool} {r : Reach} {v : Value} {d : DataW H} {p : List MemPlace} (hv : Value.okWide Try.prog w r b0 23 v) (h : DataW.Trod enc Try.prog w b sp hd 23 v d p) :
    ∃ f : Fact, v = .agg f.cells ∧ FIn f ∧ p = [] ∧ ∀ (w' : World) (b' : Nat) (sp' : Nat → Bool) (hd' : Bool), DataW.Trod enc Try.prog w' b' sp' hd' 23 v d [] := by
  obtain ⟨cs, rfl, hsz⟩ := okWide_struct Try.underlying23 hv
  have hany := struct_any Try.underlying23 (by kernel_rfl) h
  obtain ⟨l⟩ := cs
  have k3 : Try.prog.cellsOf 3 = 1 := by kernel_rfl
  have k4 : Try.prog.cellsOf 4 = 1 := by kernel_rfl
  have k9 : Try.prog.cellsOf 9 = 1 := by kernel_rfl
  match l, hsz.trans (show Try.prog.cellsOf 23 = 19 by kernel_rfl) with
  | [c0, c1, c2, c3, c4, c5, c6, c7, c8, c9, c10, c11, c12, c13, c14, c15, c16, c17, c18], _ =>
    obtain ⟨fuel, hf⟩ := h
    obtain ⟨xs, n, _, hx, _, hlen, hg⟩ := DataW.trod_struct Try.underlying23 hf
    match xs, hlen with
    | [y0, y1, y2, y3, y4, y5, y6, y7, y8, y9, y10, y11, y12, y13, y14, y15, y16, y17, y18], _ =>
      obtain ⟨n0, e0, _, q0⟩ := DataW.trod_int Try.underlying3 (show DataW.trod enc Try.prog w b sp hd n 3 [c0] = some y0 from by simpa [k3, Value.cells] using hg 0 _ rfl)
      obtain ⟨n1, e1, _, q1⟩ := DataW.trod_int Try.underlying3 (show DataW.trod enc Try.prog w b sp hd n 3 [c1] = some y1 from by simpa [k3, Value.cells] using hg 1 _ rfl)
      obtain ⟨n2, e2, _, q2⟩ := DataW.trod_int Try.underlying3 (show DataW.trod enc Try.prog w b sp hd n 3 [c2] = some y2 from by simpa [k3, Value.cells] using hg 2 _ rfl)
      obtain ⟨n3, e3, _, q3⟩ := DataW.trod_int Try.underlying3 (show DataW.trod enc Try.prog w b sp hd n 3 [c3] = some y3 from by simpa [k3, Value.cells] using hg 3 _ rfl)
      obtain ⟨n4, e4, _⟩ := DataW.trod_bool Try.underlying4 (show DataW.trod enc Try.prog w b sp hd n 4 [c4] = some y4 from by simpa [k4, Value.cells] using hg 4 _ rfl)
      obtain ⟨n5, e5, _, q5⟩ := DataW.trod_int Try.underlying3 (show DataW.trod enc Try.prog w b sp hd n 3 [c5] = some y5 from by simpa [k3, Value.cells] using hg 5 _ rfl)
      obtain ⟨n6, e6, _, q6⟩ := DataW.trod_int Try.underlying3 (show DataW.trod enc Try.prog w b sp hd n 3 [c6] = some y6 from by simpa [k3, Value.cells] using hg 6 _ rfl)
      obtain ⟨n7, e7, _, q7⟩ := DataW.trod_int Try.underlying3 (show DataW.trod enc Try.prog w b sp hd n 3 [c7] = some y7 from by simpa [k3, Value.cells] using hg 7 _ rfl)
      obtain ⟨n8, e8, _, q8⟩ := DataW.trod_int Try.underlying3 (show DataW.trod enc Try.prog w b sp hd n 3 [c8] = some y8 from by simpa [k3, Value.cells] using hg 8 _ rfl)
      obtain ⟨n9, e9, _, q9⟩ := DataW.trod_int Try.underlying3 (show DataW.trod enc Try.prog w b sp hd n 3 [c9] = some y9 from by simpa [k3, Value.cells] using hg 9 _ rfl)
      obtain ⟨n10, e10, _, q10⟩ := DataW.trod_int Try.underlying3 (show DataW.trod enc Try.prog w b sp hd n 3 [c10] = some y10 from by simpa [k3, Value.cells] using hg 10 _ rfl)
      obtain ⟨n11, e11, _, q11⟩ := DataW.trod_int Try.underlying3 (show DataW.trod enc Try.prog w b sp hd n 3 [c11] = some y11 from by simpa [k3, Value.cells] using hg 11 _ rfl)
      obtain ⟨n12, e12, _, q12⟩ := DataW.trod_int Try.underlying3 (show DataW.trod enc Try.prog w b sp hd n 3 [c12] = some y12 from by simpa [k3, Value.cells] using hg 12 _ rfl)
      obtain ⟨n13, e13, _, q13⟩ := DataW.trod_int Try.underlying3 (show DataW.trod enc Try.prog w b sp hd n 3 [c13] = some y13 from by simpa [k3, Value.cells] using hg 13 _ rfl)
      obtain ⟨n14, e14, _, q14⟩ := DataW.trod_int Try.underlying3 (show DataW.trod enc Try.prog w b sp hd n 3 [c14] = some y14 from by simpa [k3, Value.cells] using hg 14 _ rfl)
      obtain ⟨n15, e15, _, q15⟩ := DataW.trod_int Try.underlying3 (show DataW.trod enc Try.prog w b sp hd n 3 [c15] = some y15 from by simpa [k3, Value.cells] using hg 15 _ rfl)
      obtain ⟨n16, e16, _, q16⟩ := DataW.trod_int Try.underlying3 (show DataW.trod enc Try.prog w b sp hd n 3 [c16] = some y16 from by simpa [k3, Value.cells] using hg 16 _ rfl)
      obtain ⟨n17, e17, _, q17⟩ := DataW.trod_int Try.underlying3 (show DataW.trod enc Try.prog w b sp hd n 3 [c17] = some y17 from by simpa [k3, Value.cells] using hg 17 _ rfl)
      obtain ⟨n18, e18, _, _⟩ := DataW.trod_string Try.underlying9 (show DataW.trod enc Try.prog w b sp hd n 9 [c18] = some y18 from by simpa [k9, Value.cells] using hg 18 _ rfl)
      cases e0
      cases e1
      cases e2
      cases e3
      cases e4
      cases e5
      cases e6
      cases e7
      cases e8
      cases e9
      cases e10
      cases e11
      cases e12
      cases e13
      cases e14
      cases e15
      cases e16
      cases e17
      cases e18
      exact ⟨⟨n0, n1, n2, n3, n4, n5, n6, n7, n8, n9, n10, n11, n12, n13, n14, n15, n16, n17, n18⟩, rfl, ⟨wf_inI q7, wf_inI q9, wf_inI q11, wf_inI q12, wf_inI q13, wf_inI q14, wf_inI q15⟩, hany⟩
theorem Try.openAct {H : Type} {enc : TypeId × Value → H} {w : World} {b b0 : Nat} {sp : Nat → Bool} {hd : Bool} {r : Reach} {v : Value} {d : DataW H} {p : List MemPlace} (hv : Value.okWide Try.prog w r b0 25 v) (h : DataW.Trod enc Try.prog w b sp hd 25 v d p) :
    ∃ f : GAct, v = .agg f.cells ∧ AIn f ∧ p = [] ∧ ∀ (w' : World) (b' : Nat) (sp' : Nat → Bool) (hd' : Bool), DataW.Trod enc Try.prog w' b' sp' hd' 25 v d [] := by
  obtain ⟨cs, rfl, hsz⟩ := okWide_struct Try.underlying25 hv
  have hany := struct_any Try.underlying25 (by kernel_rfl) h
  obtain ⟨l⟩ := cs
  have k3 : Try.prog.cellsOf 3 = 1 := by kernel_rfl
  match l, hsz.trans (show Try.prog.cellsOf 25 = 7 by kernel_rfl) with
  | [c0, c1, c2, c3, c4, c5, c6], _ =>
    obtain ⟨fuel, hf⟩ := h
    obtain ⟨xs, n, _, hx, _, hlen, hg⟩ := DataW.trod_struct Try.underlying25 hf
    match xs, hlen with
    | [y0, y1, y2, y3, y4, y5, y6], _ =>
      obtain ⟨n0, e0, _, q0⟩ := DataW.trod_int Try.underlying3 (show DataW.trod enc Try.prog w b sp hd n 3 [c0] = some y0 from by simpa [k3, Value.cells] using hg 0 _ rfl)
      obtain ⟨n1, e1, _, q1⟩ := DataW.trod_int Try.underlying3 (show DataW.trod enc Try.prog w b sp hd n 3 [c1] = some y1 from by simpa [k3, Value.cells] using hg 1 _ rfl)
      obtain ⟨n2, e2, _, q2⟩ := DataW.trod_int Try.underlying3 (show DataW.trod enc Try.prog w b sp hd n 3 [c2] = some y2 from by simpa [k3, Value.cells] using hg 2 _ rfl)
      obtain ⟨n3, e3, _, q3⟩ := DataW.trod_int Try.underlying3 (show DataW.trod enc Try.prog w b sp hd n 3 [c3] = some y3 from by simpa [k3, Value.cells] using hg 3 _ rfl)
      obtain ⟨n4, e4, _, q4⟩ := DataW.trod_int Try.underlying3 (show DataW.trod enc Try.prog w b sp hd n 3 [c4] = some y4 from by simpa [k3, Value.cells] using hg 4 _ rfl)
      obtain ⟨n5, e5, _, q5⟩ := DataW.trod_int Try.underlying3 (show DataW.trod enc Try.prog w b sp hd n 3 [c5] = some y5 from by simpa [k3, Value.cells] using hg 5 _ rfl)
      obtain ⟨n6, e6, _, q6⟩ := DataW.trod_int Try.underlying3 (show DataW.trod enc Try.prog w b sp hd n 3 [c6] = some y6 from by simpa [k3, Value.cells] using hg 6 _ rfl)
      cases e0
      cases e1
      cases e2
      cases e3
      cases e4
      cases e5
      cases e6
      exact ⟨⟨n0, n1, n2, n3, n4, n5, n6⟩, rfl, ⟨wf_inI q0, wf_inI q4, wf_inI q5⟩, hany⟩
end Go.Proofs
