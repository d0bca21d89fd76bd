import Derived.Test.YtmimclgihlhaeaaGreatKR69
section
namespace Go.Wx
open Go.RowKit
def Cc (b : Nat) (kv : List (Int × Value)) : Asr := ⟨(· = b), fun w => IMap w b kv, fun _ _ h k _ => by
 have := h.lt
 obtain ⟨es, clock, h1, h2⟩ := h
 exact ⟨es, clock, (k b rfl this).trans h1, h2⟩, fun _ h _ e => by rw [e]; exact h.lt⟩
def Fp (b r : Nat) (kv : List (Int × Value)) (done : List Int) : Asr := ⟨fun i => i = b ∨ i = r, fun w => IRng w b r kv done, fun _ _ h k _ => by
 obtain ⟨es, clock, since, seen, c0, h1, h2, h3, h4, h5⟩ := h
 exact ⟨es, clock, since, seen, c0, (k b (.inl rfl) (lt_of_block h1)).trans h1, h2, h3, (k r (.inr rfl) (lt_of_block h4)).trans h4, h5⟩, fun _ h i e => by
 obtain ⟨es, clock, since, seen, c0, h1, h2, h3, h4, h5⟩ := h
 rcases e with rfl | rfl
 · exact lt_of_block h1
 exact lt_of_block h4⟩
theorem Gz {b r : Nat} {kv : List (Int × Value)} {w w' : World} (h : IRng w' b r kv []) (u : Up w w') (hr : r = w.heap.size) : Stp (Cc b kv) (Fp b r kv []) w w' := ⟨u.fr _, h, fun i hi => hi.elim (fun e => .inl e) (fun e => .inr oQ)⟩
theorem Ih {P : Program} {b r : Nat} {kv : List (Int × Value)} {done : List Int} {k : Int} {u : Value} {w w' : World} (h : NextTo P w w' b r kv done k u) : Stp (Fp b r kv done) (Fp b r kv (done ++ [k])) w w' := ⟨h.sto.fr.mono (fun i (e : i = r) => .inr e), h.rng, fun _ h => .inl h⟩
namespace Ms
def Cc (b : Nat) (kv : List (List UInt8 × Value)) : Asr := ⟨(· = b), fun w => Ms.IMap w b kv, fun _ _ h k _ => by
 have := h.lt
 obtain ⟨es, clock, h1, h2⟩ := h
 exact ⟨es, clock, (k b rfl this).trans h1, h2⟩, fun _ h _ e => by rw [e]; exact h.lt⟩
def Fp (b r : Nat) (kv : List (List UInt8 × Value)) (done : List (List UInt8)) : Asr := ⟨fun i => i = b ∨ i = r, fun w => Ms.IRng w b r kv done, fun _ _ h k _ => by
 obtain ⟨es, clock, since, seen, c0, h1, h2, h3, h4, h5⟩ := h
 exact ⟨es, clock, since, seen, c0, (k b (.inl rfl) (lt_of_block h1)).trans h1, h2, h3, (k r (.inr rfl) (lt_of_block h4)).trans h4, h5⟩, fun _ h i e => by
 obtain ⟨es, clock, since, seen, c0, h1, h2, h3, h4, h5⟩ := h
 rcases e with rfl | rfl
 · exact lt_of_block h1
 exact lt_of_block h4⟩
theorem Kb {b : Nat} {kv kv' : List (List UInt8 × Value)} {w w' : World} (h : Ms.IMap w' b kv') (k : Sto b w w') : Stp (Cc b kv) (Cc b kv') w w' := ⟨k.fr, h, fun _ h => .inl h⟩
theorem Gz {b r : Nat} {kv : List (List UInt8 × Value)} {w w' : World} (h : Ms.IRng w' b r kv []) (u : Up w w') (hr : r = w.heap.size) : Stp (Cc b kv) (Fp b r kv []) w w' := ⟨u.fr _, h, fun i hi => hi.elim (fun e => .inl e) (fun e => .inr oQ)⟩
theorem Ih {P : Program} {b r : Nat} {kv : List (List UInt8 × Value)} {done : List (List UInt8)} {k : List UInt8} {u : Value} {w w' : World} (h : Ms.NextTo P w w' b r kv done k u) : Stp (Fp b r kv done) (Fp b r kv (done ++ [k])) w w' := ⟨h.sto.fr.mono (fun i (e : i = r) => .inr e), h.rng, fun _ h => .inl h⟩
end Ms
theorem Ld {As : List Asr} {A A' : Asr} {w w' : World} {j : Nat} (h : (D8 As).holds w) (hj : As[j]? = some A) (s : Stp A A' w w') : Stp (D8 As) (D8 (As.set j A')) w w' := by
 have := (Ow h).Dj j hj s
 rw [← List.append_nil (As.set j A')] at this
 exact J5 this
theorem Wy {α β : Type} (a : α) (b : β) : ∀ (l : List α) (r : List β) (j : Nat), (l.set j a).zip (r.set j b) = (l.zip r).set j (a, b)
 | [], r, j => by simp
 | x :: l, [], j => by cases j <;> simp
 | x :: l, y :: r, 0 => rfl
 | x :: l, y :: r, j + 1 => by
   rw [List.set_cons_succ, List.set_cons_succ, List.zip_cons_cons, List.zip_cons_cons, List.set_cons_succ, Wy a b l r j]
def lists {α : Type} (e k : Nat) (enc : α → Array Value) (vs : List Value) (xss : List (List α)) : List Asr := (vs.zip xss).map fun p => Ai e k enc p.1 p.2
theorem L6 {α : Type} {e k : Nat} {enc : α → Array Value} {vs : List Value} {xss : List (List α)} {j : Nat} {v : Value} {xs : List α} (hv : vs[j]? = some v) (hx : xss[j]? = some xs) : (lists e k enc vs xss)[j]? = some (Ai e k enc v xs) := by
 unfold lists
 rw [List.getElem?_map]
 have : (vs.zip xss)[j]? = some (v, xs) := by rw [List.getElem?_zip_eq_some]; exact ⟨hv, hx⟩
 rw [this]; rfl
theorem Hy {α : Type} {e k : Nat} {enc : α → Array Value} {vs : List Value} {xss : List (List α)} {j : Nat} {v : Value} {xs : List α} : (lists e k enc vs xss).set j (Ai e k enc v xs) = lists e k enc (vs.set j v) (xss.set j xs) := by
 unfold lists
 have : (vs.set j v).zip (xss.set j xs) = (vs.zip xss).set j (v, xs) := Wy v xs vs xss j
 rw [this, List.map_set]
theorem Jk {α : Type} {e k : Nat} {enc : α → Array Value} {vs : List Value} {xss : List (List α)} {w : World} {j : Nat} {v : Value} {xs : List α} (h : (D8 (lists e k enc vs xss)).holds w) (hv : vs[j]? = some v) (hx : xss[j]? = some xs) : OwnS w 0 e k enc v xs := h.1 _ (List.mem_of_getElem? (L6 hv hx))
theorem Tr {α : Type} {e k : Nat} {enc : α → Array Value} {vs : List Value} {xss : List (List α)} {w : World} (h : (D8 (lists e k enc vs xss)).holds w) (hl : vs.length = xss.length) : ∀ v ∈ vs, v.oneCell' = true := fun v hv => by
 obtain ⟨j, hj⟩ := List.mem_iff_getElem?.1 hv
 have hlt := (List.getElem?_eq_some_iff.1 hj).1
 obtain ⟨xs, hx⟩ := Ac (xs := xss) (i := j) oQ
 exact (Jk h hj hx).one
theorem eF {α : Type} (e k : Nat) (enc : α → Array Value) (n : Nat) (w : World) : (D8 (lists e k enc (List.replicate n (.slice none 0 0)) (List.replicate n ([] : List α)))).holds w ∧ ∀ i, ¬ (D8 (lists e k enc (List.replicate n (.slice none 0 0)) (List.replicate n ([] : List α)))).foot i := by
 have key : ∀ A ∈ lists e k enc (List.replicate n (.slice none 0 0)) (List.replicate n ([] : List α)), A = Ai e k enc (.slice none 0 0) [] := fun A hA => by
   unfold lists at hA
   obtain ⟨⟨v, xs⟩, hp, rfl⟩ := List.mem_map.1 hA
   have := List.of_mem_zip hp
   rw [List.eq_of_mem_replicate this.1, List.eq_of_mem_replicate this.2]
 refine ⟨⟨fun A hA => by rw [key A hA]; exact OwnS.nil _ _ _ _ _, List.pairwise_iff_getElem.2 fun i j hi hj _ x hx => by
   rw [key _ (List.getElem_mem hi)] at hx; cases hx⟩, fun i ⟨A, hA, hi⟩ => by rw [key A hA] at hi; cases hi⟩
end Go.Wx
end
section
namespace Go.Wx
def Kt (k : Int) (f : Fact) : K2 := match k with
 | 4 => (f.Wafer, f.Time)
 | 5 => (f.Product, 0)
 | 8 => (f.Other, f.Parties)
 | 10 => (f.Recipe, f.Time)
 | _ => (f.ID, 0)
end Go.Wx
namespace Go.Proofs.YtmimclgihlhaeaaGreat
open Go.Proofs.Tryz
open Go.Wx Go.RowKit
def Mz (k : Int) : Nat := match k with
 | 1 => 69
 | 2 => 71
 | 3 => 72
 | 4 => 73
 | 5 => 75
 | 6 => 77
 | 7 => 78
 | 8 => 79
 | 9 => 81
 | 10 => 82
 | 11 => 84
 | _ => 0
def Nx (k : Int) : Nat := match k with
 | 1 => 70
 | 2 => 70
 | 3 => 70
 | 4 => 74
 | 5 => 76
 | 6 => 70
 | 7 => 70
 | 8 => 80
 | 9 => 70
 | 10 => 83
 | 11 => 70
 | _ => 0
def Vt (k : Int) : Go.Value := .agg #[.func (.func (Mz k)) #[] #[], .func (.func (Nx k)) #[] #[]]
theorem pO (B : Nat) (w : World) : Ret Tryz.prog 69 #[.pointer (some ⟨B, 0, none⟩)] w fun r w' => r = .pointer (some ⟨B, 0, none⟩) ∧ Up w w' := by
 have hW := Up.refl w
 refine cS (n := 6) (m := 9) func69 rfl rfl rfl ?_
 refine CW.S (LW.C (LW.S (CW.region (LW.M rfl ?_))))
 refine LW.pp (.nilCheck (.t rfl)) ?_
 refine LW.pp (.fA 0 underlying38 rfl sizeOf23 rfl) ?_
 refine LW.A rfl (LW.T (CW.ret ?_))
 refine Af rfl rfl ⟨_, rfl, ?_⟩
 exact ⟨rfl, hW⟩
theorem pP (B : Nat) (w : World) : Ret Tryz.prog 71 #[.pointer (some ⟨B, 0, none⟩)] w fun r w' => r = .pointer (some ⟨B, 1, none⟩) ∧ Up w w' := by
 have hW := Up.refl w
 refine cS (n := 6) (m := 9) func71 rfl rfl rfl ?_
 refine CW.S (LW.C (LW.S (CW.region (LW.M rfl ?_))))
 refine LW.pp (.nilCheck (.t rfl)) ?_
 refine LW.pp (.fA 1 underlying38 rfl sizeOf23 rfl) ?_
 refine LW.A rfl (LW.T (CW.ret ?_))
 refine Af rfl rfl ⟨_, rfl, ?_⟩
 exact ⟨rfl, hW⟩
theorem pQ (B : Nat) (w : World) : Ret Tryz.prog 72 #[.pointer (some ⟨B, 0, none⟩)] w fun r w' => r = .pointer (some ⟨B, 2, none⟩) ∧ Up w w' := by
 have hW := Up.refl w
 refine cS (n := 6) (m := 9) func72 rfl rfl rfl ?_
 refine CW.S (LW.C (LW.S (CW.region (LW.M rfl ?_))))
 refine LW.pp (.nilCheck (.t rfl)) ?_
 refine LW.pp (.fA 2 underlying38 rfl sizeOf23 rfl) ?_
 refine LW.A rfl (LW.T (CW.ret ?_))
 refine Af rfl rfl ⟨_, rfl, ?_⟩
 exact ⟨rfl, hW⟩
theorem pR (B : Nat) (w : World) : Ret Tryz.prog 73 #[.pointer (some ⟨B, 0, none⟩)] w fun r w' => r = .pointer (some ⟨B, 3, none⟩) ∧ Up w w' := by
 have hW := Up.refl w
 refine cS (n := 6) (m := 9) func73 rfl rfl rfl ?_
 refine CW.S (LW.C (LW.S (CW.region (LW.M rfl ?_))))
 refine LW.pp (.nilCheck (.t rfl)) ?_
 refine LW.pp (.fA 3 underlying38 rfl sizeOf23 rfl) ?_
 refine LW.A rfl (LW.T (CW.ret ?_))
 refine Af rfl rfl ⟨_, rfl, ?_⟩
 exact ⟨rfl, hW⟩
theorem pS (B : Nat) (w : World) : Ret Tryz.prog 75 #[.pointer (some ⟨B, 0, none⟩)] w fun r w' => r = .pointer (some ⟨B, 4, none⟩) ∧ Up w w' := by
 have hW := Up.refl w
 refine cS (n := 6) (m := 9) func75 rfl rfl rfl ?_
 refine CW.S (LW.C (LW.S (CW.region (LW.M rfl ?_))))
 refine LW.pp (.nilCheck (.t rfl)) ?_
 refine LW.pp (.fA 4 underlying38 rfl sizeOf23 rfl) ?_
 refine LW.A rfl (LW.T (CW.ret ?_))
 refine Af rfl rfl ⟨_, rfl, ?_⟩
 exact ⟨rfl, hW⟩
theorem pT (B : Nat) (w : World) : Ret Tryz.prog 77 #[.pointer (some ⟨B, 0, none⟩)] w fun r w' => r = .pointer (some ⟨B, 5, none⟩) ∧ Up w w' := by
 have hW := Up.refl w
 refine cS (n := 6) (m := 9) func77 rfl rfl rfl ?_
 refine CW.S (LW.C (LW.S (CW.region (LW.M rfl ?_))))
 refine LW.pp (.nilCheck (.t rfl)) ?_
 refine LW.pp (.fA 5 underlying38 rfl sizeOf23 rfl) ?_
 refine LW.A rfl (LW.T (CW.ret ?_))
 refine Af rfl rfl ⟨_, rfl, ?_⟩
 exact ⟨rfl, hW⟩
theorem pU (B : Nat) (w : World) : Ret Tryz.prog 78 #[.pointer (some ⟨B, 0, none⟩)] w fun r w' => r = .pointer (some ⟨B, 6, none⟩) ∧ Up w w' := by
 have hW := Up.refl w
 refine cS (n := 6) (m := 9) func78 rfl rfl rfl ?_
 refine CW.S (LW.C (LW.S (CW.region (LW.M rfl ?_))))
 refine LW.pp (.nilCheck (.t rfl)) ?_
 refine LW.pp (.fA 6 underlying38 rfl sizeOf23 rfl) ?_
 refine LW.A rfl (LW.T (CW.ret ?_))
 refine Af rfl rfl ⟨_, rfl, ?_⟩
 exact ⟨rfl, hW⟩
theorem pV (B : Nat) (w : World) : Ret Tryz.prog 79 #[.pointer (some ⟨B, 0, none⟩)] w fun r w' => r = .pointer (some ⟨B, 7, none⟩) ∧ Up w w' := by
 have hW := Up.refl w
 refine cS (n := 6) (m := 9) func79 rfl rfl rfl ?_
 refine CW.S (LW.C (LW.S (CW.region (LW.M rfl ?_))))
 refine LW.pp (.nilCheck (.t rfl)) ?_
 refine LW.pp (.fA 7 underlying38 rfl sizeOf23 rfl) ?_
 refine LW.A rfl (LW.T (CW.ret ?_))
 refine Af rfl rfl ⟨_, rfl, ?_⟩
 exact ⟨rfl, hW⟩
theorem pW (B : Nat) (w : World) : Ret Tryz.prog 81 #[.pointer (some ⟨B, 0, none⟩)] w fun r w' => r = .pointer (some ⟨B, 8, none⟩) ∧ Up w w' := by
 have hW := Up.refl w
 refine cS (n := 6) (m := 9) func81 rfl rfl rfl ?_
 refine CW.S (LW.C (LW.S (CW.region (LW.M rfl ?_))))
 refine LW.pp (.nilCheck (.t rfl)) ?_
 refine LW.pp (.fA 8 underlying38 rfl sizeOf23 rfl) ?_
 refine LW.A rfl (LW.T (CW.ret ?_))
 refine Af rfl rfl ⟨_, rfl, ?_⟩
 exact ⟨rfl, hW⟩
theorem mM (B : Nat) (w : World) : Ret Tryz.prog 82 #[.pointer (some ⟨B, 0, none⟩)] w fun r w' => r = .pointer (some ⟨B, 9, none⟩) ∧ Up w w' := by
 have hW := Up.refl w
 refine cS (n := 6) (m := 9) func82 rfl rfl rfl ?_
 refine CW.S (LW.C (LW.S (CW.region (LW.M rfl ?_))))
 refine LW.pp (.nilCheck (.t rfl)) ?_
 refine LW.pp (.fA 9 underlying38 rfl sizeOf23 rfl) ?_
 refine LW.A rfl (LW.T (CW.ret ?_))
 refine Af rfl rfl ⟨_, rfl, ?_⟩
 exact ⟨rfl, hW⟩
theorem mN (B : Nat) (w : World) : Ret Tryz.prog 84 #[.pointer (some ⟨B, 0, none⟩)] w fun r w' => r = .pointer (some ⟨B, 10, none⟩) ∧ Up w w' := by
 have hW := Up.refl w
 refine cS (n := 6) (m := 9) func84 rfl rfl rfl ?_
 refine CW.S (LW.C (LW.S (CW.region (LW.M rfl ?_))))
 refine LW.pp (.nilCheck (.t rfl)) ?_
 refine LW.pp (.fA 10 underlying38 rfl sizeOf23 rfl) ?_
 refine LW.A rfl (LW.T (CW.ret ?_))
 refine Af rfl rfl ⟨_, rfl, ?_⟩
 exact ⟨rfl, hW⟩
theorem Wz (k : Int) (h1 : 1 ≤ k) (h2 : k ≤ 11) (B : Nat) (w : World) : Ret Tryz.prog (Mz k) #[.pointer (some ⟨B, 0, none⟩)] w fun r w' => r = .pointer (some ⟨B, (k - 1).toNat, none⟩) ∧ Up w w' := by
 obtain rfl | rfl | rfl | rfl | rfl | rfl | rfl | rfl | rfl | rfl | rfl : k = 1 ∨ k = 2 ∨ k = 3 ∨ k = 4 ∨ k = 5 ∨ k = 6 ∨ k = 7 ∨ k = 8 ∨ k = 9 ∨ k = 10 ∨ k = 11 := by omega
 · exact pO B w
 · exact pP B w
 · exact pQ B w
 · exact pR B w
 · exact pS B w
 · exact pT B w
 · exact pU B w
 · exact pV B w
 · exact pW B w
 · exact mM B w
 exact mN B w
theorem bQ (k : Int) (h1 : 1 ≤ k) (h2 : k ≤ 11) : ∀ (args : Array Go.Value) (w : World), (callFunc (Mz k) args).run Tryz.prog w = .ok (.enter (Mz k) args) w := by
 obtain rfl | rfl | rfl | rfl | rfl | rfl | rfl | rfl | rfl | rfl | rfl : k = 1 ∨ k = 2 ∨ k = 3 ∨ k = 4 ∨ k = 5 ∨ k = 6 ∨ k = 7 ∨ k = 8 ∨ k = 9 ∨ k = 10 ∨ k = 11 := by omega
 · exact vK
 · exact vL
 · exact vM
 · exact vN
 · exact vP
 · exact vS
 · exact vT
 · exact vU
 · exact vW
 · exact vX
 exact vZ
theorem Rm (x : Fact) (w : World) : Ret Tryz.prog 70 #[.agg x.cells] w fun r w' => r = .agg #[vi (Kt 1 x).1, vi (Kt 1 x).2] ∧ Up w w' := by
 have hW := Up.refl w
 refine cS (n := 6) (m := 9) func70 rfl rfl rfl ?_
 refine CW.S ?_
 refine Ah (.Eu (.t rfl)) rfl ?_
 rintro _ w1 ⟨B1, rfl, NB1⟩
 have eB1 := NB1.at_
 have zB1 := NB1.size
 replace hW := hW.up NB1.up
 have hB1 := NB1.blk
 refine Ah (.A7 zeroValue99) rfl ?_
 rintro _ w2 ⟨B2, rfl, NB2⟩
 have eB2 := NB2.at_
 have zB2 := NB2.size
 replace hW := hW.up NB2.up
 replace hB1 := hB1.up NB2.up
 have hB2 := NB2.blk
 refine LW.S (CW.region ?_)
 refine LW.pp (.fA 1 underlying36 rfl sizeOf3 rfl) ?_
 refine LW.pp (.ld isAgg3 rfl (hB1.Ak rfl)) ?_
 refine LW.pp (.Jj (cs := #[vi x.ID, vi 0]) underlying99 zeroValue99 sizeOf3 (.cons (.t rfl) (.cons (.const _) .nil)) rfl) ?_
 refine LW.E (.A3 sizeOf99 rfl (.t rfl) (.t rfl) eQ hB2 rfl) ?_
 intro w3 Nw3
 have zw3 := Nw3.size
 replace hW := hW.sto Nw3.sto oQ
 replace hB1 := hB1.sto Nw3.sto oQ
 replace hB2 := Nw3.blk
 refine LW.T (CW.ret ?_)
 refine Fa rfl rfl isAgg99 sizeOf99 rfl (hB2.agg) ⟨_, rfl, ?_⟩
 exact ⟨rfl, hW⟩
theorem tS (x : Fact) (w : World) : Ret Tryz.prog 74 #[.agg x.cells] w fun r w' => r = .agg #[vi (Kt 4 x).1, vi (Kt 4 x).2] ∧ Up w w' := by
 have hW := Up.refl w
 refine cS (n := 8) (m := 9) func74 rfl rfl rfl ?_
 refine CW.S ?_
 refine Ah (.Eu (.t rfl)) rfl ?_
 rintro _ w1 ⟨B1, rfl, NB1⟩
 have eB1 := NB1.at_
 have zB1 := NB1.size
 replace hW := hW.up NB1.up
 have hB1 := NB1.blk
 refine Ah (.A7 zeroValue99) rfl ?_
 rintro _ w2 ⟨B2, rfl, NB2⟩
 have eB2 := NB2.at_
 have zB2 := NB2.size
 replace hW := hW.up NB2.up
 replace hB1 := hB1.up NB2.up
 have hB2 := NB2.blk
 refine LW.S (CW.region ?_)
 refine LW.pp (.fA 7 underlying36 rfl sizeOf3 rfl) ?_
 refine LW.pp (.ld isAgg3 rfl (hB1.Ak rfl)) ?_
 refine LW.pp (.fA 5 underlying36 rfl sizeOf3 rfl) ?_
 refine LW.pp (.ld isAgg3 rfl (hB1.Ak rfl)) ?_
 refine LW.pp (.Jj (cs := #[vi x.Wafer, vi x.Time]) underlying99 zeroValue99 sizeOf3 (.cons (.t rfl) (.cons (.t rfl) .nil)) rfl) ?_
 refine LW.E (.A3 sizeOf99 rfl (.t rfl) (.t rfl) eQ hB2 rfl) ?_
 intro w3 Nw3
 have zw3 := Nw3.size
 replace hW := hW.sto Nw3.sto oQ
 replace hB1 := hB1.sto Nw3.sto oQ
 replace hB2 := Nw3.blk
 refine LW.T (CW.ret ?_)
 refine Fa rfl rfl isAgg99 sizeOf99 rfl (hB2.agg) ⟨_, rfl, ?_⟩
 exact ⟨rfl, hW⟩
theorem tT (x : Fact) (w : World) : Ret Tryz.prog 76 #[.agg x.cells] w fun r w' => r = .agg #[vi (Kt 5 x).1, vi (Kt 5 x).2] ∧ Up w w' := by
 have hW := Up.refl w
 refine cS (n := 6) (m := 9) func76 rfl rfl rfl ?_
 refine CW.S ?_
 refine Ah (.Eu (.t rfl)) rfl ?_
 rintro _ w1 ⟨B1, rfl, NB1⟩
 have eB1 := NB1.at_
 have zB1 := NB1.size
 replace hW := hW.up NB1.up
 have hB1 := NB1.blk
 refine Ah (.A7 zeroValue99) rfl ?_
 rintro _ w2 ⟨B2, rfl, NB2⟩
 have eB2 := NB2.at_
 have zB2 := NB2.size
 replace hW := hW.up NB2.up
 replace hB1 := hB1.up NB2.up
 have hB2 := NB2.blk
 refine LW.S (CW.region ?_)
 refine LW.pp (.fA 10 underlying36 rfl sizeOf3 rfl) ?_
 refine LW.pp (.ld isAgg3 rfl (hB1.Ak rfl)) ?_
 refine LW.pp (.Jj (cs := #[vi x.Product, vi 0]) underlying99 zeroValue99 sizeOf3 (.cons (.t rfl) (.cons (.const _) .nil)) rfl) ?_
 refine LW.E (.A3 sizeOf99 rfl (.t rfl) (.t rfl) eQ hB2 rfl) ?_
 intro w3 Nw3
 have zw3 := Nw3.size
 replace hW := hW.sto Nw3.sto oQ
 replace hB1 := hB1.sto Nw3.sto oQ
 replace hB2 := Nw3.blk
 refine LW.T (CW.ret ?_)
 refine Fa rfl rfl isAgg99 sizeOf99 rfl (hB2.agg) ⟨_, rfl, ?_⟩
 exact ⟨rfl, hW⟩
theorem tU (x : Fact) (w : World) : Ret Tryz.prog 80 #[.agg x.cells] w fun r w' => r = .agg #[vi (Kt 8 x).1, vi (Kt 8 x).2] ∧ Up w w' := by
 have hW := Up.refl w
 refine cS (n := 8) (m := 9) func80 rfl rfl rfl ?_
 refine CW.S ?_
 refine Ah (.Eu (.t rfl)) rfl ?_
 rintro _ w1 ⟨B1, rfl, NB1⟩
 have eB1 := NB1.at_
 have zB1 := NB1.size
 replace hW := hW.up NB1.up
 have hB1 := NB1.blk
 refine Ah (.A7 zeroValue99) rfl ?_
 rintro _ w2 ⟨B2, rfl, NB2⟩
 have eB2 := NB2.at_
 have zB2 := NB2.size
 replace hW := hW.up NB2.up
 replace hB1 := hB1.up NB2.up
 have hB2 := NB2.blk
 refine LW.S (CW.region ?_)
 refine LW.pp (.fA 8 underlying36 rfl sizeOf3 rfl) ?_
 refine LW.pp (.ld isAgg3 rfl (hB1.Ak rfl)) ?_
 refine LW.pp (.fA 17 underlying36 rfl sizeOf3 rfl) ?_
 refine LW.pp (.ld isAgg3 rfl (hB1.Ak rfl)) ?_
 refine LW.pp (.Jj (cs := #[vi x.Other, vi x.Parties]) underlying99 zeroValue99 sizeOf3 (.cons (.t rfl) (.cons (.t rfl) .nil)) rfl) ?_
 refine LW.E (.A3 sizeOf99 rfl (.t rfl) (.t rfl) eQ hB2 rfl) ?_
 intro w3 Nw3
 have zw3 := Nw3.size
 replace hW := hW.sto Nw3.sto oQ
 replace hB1 := hB1.sto Nw3.sto oQ
 replace hB2 := Nw3.blk
 refine LW.T (CW.ret ?_)
 refine Fa rfl rfl isAgg99 sizeOf99 rfl (hB2.agg) ⟨_, rfl, ?_⟩
 exact ⟨rfl, hW⟩
theorem pX (x : Fact) (w : World) : Ret Tryz.prog 83 #[.agg x.cells] w fun r w' => r = .agg #[vi (Kt 10 x).1, vi (Kt 10 x).2] ∧ Up w w' := by
 have hW := Up.refl w
 refine cS (n := 8) (m := 9) func83 rfl rfl rfl ?_
 refine CW.S ?_
 refine Ah (.Eu (.t rfl)) rfl ?_
 rintro _ w1 ⟨B1, rfl, NB1⟩
 have eB1 := NB1.at_
 have zB1 := NB1.size
 replace hW := hW.up NB1.up
 have hB1 := NB1.blk
 refine Ah (.A7 zeroValue99) rfl ?_
 rintro _ w2 ⟨B2, rfl, NB2⟩
 have eB2 := NB2.at_
 have zB2 := NB2.size
 replace hW := hW.up NB2.up
 replace hB1 := hB1.up NB2.up
 have hB2 := NB2.blk
 refine LW.S (CW.region ?_)
 refine LW.pp (.fA 14 underlying36 rfl sizeOf3 rfl) ?_
 refine LW.pp (.ld isAgg3 rfl (hB1.Ak rfl)) ?_
 refine LW.pp (.fA 5 underlying36 rfl sizeOf3 rfl) ?_
 refine LW.pp (.ld isAgg3 rfl (hB1.Ak rfl)) ?_
 refine LW.pp (.Jj (cs := #[vi x.Recipe, vi x.Time]) underlying99 zeroValue99 sizeOf3 (.cons (.t rfl) (.cons (.t rfl) .nil)) rfl) ?_
 refine LW.E (.A3 sizeOf99 rfl (.t rfl) (.t rfl) eQ hB2 rfl) ?_
 intro w3 Nw3
 have zw3 := Nw3.size
 replace hW := hW.sto Nw3.sto oQ
 replace hB1 := hB1.sto Nw3.sto oQ
 replace hB2 := Nw3.blk
 refine LW.T (CW.ret ?_)
 refine Fa rfl rfl isAgg99 sizeOf99 rfl (hB2.agg) ⟨_, rfl, ?_⟩
 exact ⟨rfl, hW⟩
theorem mO (k : Int) (h1 : 1 ≤ k) (h2 : k ≤ 11) (x : Fact) (w : World) : Ret Tryz.prog (Nx k) #[.agg x.cells] w fun r w' => r = .agg #[vi (Kt k x).1, vi (Kt k x).2] ∧ Up w w' := by
 obtain rfl | rfl | rfl | rfl | rfl | rfl | rfl | rfl | rfl | rfl | rfl : k = 1 ∨ k = 2 ∨ k = 3 ∨ k = 4 ∨ k = 5 ∨ k = 6 ∨ k = 7 ∨ k = 8 ∨ k = 9 ∨ k = 10 ∨ k = 11 := by omega
 · exact Rm x w
 · exact Rm x w
 · exact Rm x w
 · exact tS x w
 · exact tT x w
 · exact Rm x w
 · exact Rm x w
 · exact tU x w
 · exact Rm x w
 · exact pX x w
 exact Rm x w
theorem pY (k : Int) (h1 : 1 ≤ k) (h2 : k ≤ 11) : ∀ (args : Array Go.Value) (w : World), (callFunc (Nx k) args).run Tryz.prog w = .ok (.enter (Nx k) args) w := by
 obtain rfl | rfl | rfl | rfl | rfl | rfl | rfl | rfl | rfl | rfl | rfl : k = 1 ∨ k = 2 ∨ k = 3 ∨ k = 4 ∨ k = 5 ∨ k = 6 ∨ k = 7 ∨ k = 8 ∨ k = 9 ∨ k = 10 ∨ k = 11 := by omega
 · exact Yr
 · exact Yr
 · exact Yr
 · exact vO
 · exact vR
 · exact Yr
 · exact Yr
 · exact vV
 · exact Yr
 · exact vY
 exact Yr
theorem eG (w : World) : Ret Tryz.prog 33 #[] w fun r w' => ∃ b, r = .map (some b) ∧ IMap w' b (P4 Vt 11) ∧ w.heap.size ≤ b ∧ Up w w' := by
 have hW := Up.refl w
 refine cS (n := 14) (m := 9) func33 rfl rfl rfl ?_
 refine CW.S (LW.C (LW.S ?_))
 skip
 refine CW.region ?_
 refine LW.r REv.makeMap rfl rfl rfl rfl ?_
 rintro _ w1 ⟨B1, rfl, MB1, uB1, eB1, zB1⟩
 replace hW := hW.up uB1
 have hM1 := MB1
 refine LW.pp (.build (cs := #[.func (.func 69) #[] #[], .func (.func 70) #[] #[]]) underlying76 zeroValue76 C2 (.cons (.func _) (.cons (.func _) .nil)) rfl) ?_
 replace hM1 : IMap _ B1 (P4 Vt 0) := hM1
 refine LW.E (.insert (k := ((0 + 1 : Nat) : Int)) (v := Vt ((0 + 1 : Nat) : Int)) underlying70 underlying3 (.t rfl) (.const _) (.t rfl) hM1) ?_
 rintro w2 ⟨Mw2, Kw2, zw2⟩
 rw [Ex] at Mw2
 replace hM1 := Mw2
 replace hW := hW.sto Kw2 oQ
 refine LW.pp (.build (cs := #[.func (.func 71) #[] #[], .func (.func 70) #[] #[]]) underlying76 zeroValue76 C2 (.cons (.func _) (.cons (.func _) .nil)) rfl) ?_
 refine LW.E (.insert (k := ((1 + 1 : Nat) : Int)) (v := Vt ((1 + 1 : Nat) : Int)) underlying70 underlying3 (.t rfl) (.const _) (.t rfl) hM1) ?_
 rintro w3 ⟨Mw3, Kw3, zw3⟩
 rw [Ex] at Mw3
 replace hM1 := Mw3
 replace hW := hW.sto Kw3 oQ
 refine LW.pp (.build (cs := #[.func (.func 72) #[] #[], .func (.func 70) #[] #[]]) underlying76 zeroValue76 C2 (.cons (.func _) (.cons (.func _) .nil)) rfl) ?_
 refine LW.E (.insert (k := ((2 + 1 : Nat) : Int)) (v := Vt ((2 + 1 : Nat) : Int)) underlying70 underlying3 (.t rfl) (.const _) (.t rfl) hM1) ?_
 rintro w4 ⟨Mw4, Kw4, zw4⟩
 rw [Ex] at Mw4
 replace hM1 := Mw4
 replace hW := hW.sto Kw4 oQ
 refine LW.pp (.build (cs := #[.func (.func 73) #[] #[], .func (.func 74) #[] #[]]) underlying76 zeroValue76 C2 (.cons (.func _) (.cons (.func _) .nil)) rfl) ?_
 refine LW.E (.insert (k := ((3 + 1 : Nat) : Int)) (v := Vt ((3 + 1 : Nat) : Int)) underlying70 underlying3 (.t rfl) (.const _) (.t rfl) hM1) ?_
 rintro w5 ⟨Mw5, Kw5, zw5⟩
 rw [Ex] at Mw5
 replace hM1 := Mw5
 replace hW := hW.sto Kw5 oQ
 refine LW.pp (.build (cs := #[.func (.func 75) #[] #[], .func (.func 76) #[] #[]]) underlying76 zeroValue76 C2 (.cons (.func _) (.cons (.func _) .nil)) rfl) ?_
 refine LW.E (.insert (k := ((4 + 1 : Nat) : Int)) (v := Vt ((4 + 1 : Nat) : Int)) underlying70 underlying3 (.t rfl) (.const _) (.t rfl) hM1) ?_
 rintro w6 ⟨Mw6, Kw6, zw6⟩
 rw [Ex] at Mw6
 replace hM1 := Mw6
 replace hW := hW.sto Kw6 oQ
 refine LW.pp (.build (cs := #[.func (.func 77) #[] #[], .func (.func 70) #[] #[]]) underlying76 zeroValue76 C2 (.cons (.func _) (.cons (.func _) .nil)) rfl) ?_
 refine LW.E (.insert (k := ((5 + 1 : Nat) : Int)) (v := Vt ((5 + 1 : Nat) : Int)) underlying70 underlying3 (.t rfl) (.const _) (.t rfl) hM1) ?_
 rintro w7 ⟨Mw7, Kw7, zw7⟩
 rw [Ex] at Mw7
 replace hM1 := Mw7
 replace hW := hW.sto Kw7 oQ
 refine LW.pp (.build (cs := #[.func (.func 78) #[] #[], .func (.func 70) #[] #[]]) underlying76 zeroValue76 C2 (.cons (.func _) (.cons (.func _) .nil)) rfl) ?_
 refine LW.E (.insert (k := ((6 + 1 : Nat) : Int)) (v := Vt ((6 + 1 : Nat) : Int)) underlying70 underlying3 (.t rfl) (.const _) (.t rfl) hM1) ?_
 rintro w8 ⟨Mw8, Kw8, zw8⟩
 rw [Ex] at Mw8
 replace hM1 := Mw8
 replace hW := hW.sto Kw8 oQ
 refine LW.pp (.build (cs := #[.func (.func 79) #[] #[], .func (.func 80) #[] #[]]) underlying76 zeroValue76 C2 (.cons (.func _) (.cons (.func _) .nil)) rfl) ?_
 refine LW.E (.insert (k := ((7 + 1 : Nat) : Int)) (v := Vt ((7 + 1 : Nat) : Int)) underlying70 underlying3 (.t rfl) (.const _) (.t rfl) hM1) ?_
 rintro w9 ⟨Mw9, Kw9, zw9⟩
 rw [Ex] at Mw9
 replace hM1 := Mw9
 replace hW := hW.sto Kw9 oQ
 refine LW.pp (.build (cs := #[.func (.func 81) #[] #[], .func (.func 70) #[] #[]]) underlying76 zeroValue76 C2 (.cons (.func _) (.cons (.func _) .nil)) rfl) ?_
 refine LW.E (.insert (k := ((8 + 1 : Nat) : Int)) (v := Vt ((8 + 1 : Nat) : Int)) underlying70 underlying3 (.t rfl) (.const _) (.t rfl) hM1) ?_
 rintro w10 ⟨Mw10, Kw10, zw10⟩
 rw [Ex] at Mw10
 replace hM1 := Mw10
 replace hW := hW.sto Kw10 oQ
 refine LW.pp (.build (cs := #[.func (.func 82) #[] #[], .func (.func 83) #[] #[]]) underlying76 zeroValue76 C2 (.cons (.func _) (.cons (.func _) .nil)) rfl) ?_
 refine LW.E (.insert (k := ((9 + 1 : Nat) : Int)) (v := Vt ((9 + 1 : Nat) : Int)) underlying70 underlying3 (.t rfl) (.const _) (.t rfl) hM1) ?_
 rintro w11 ⟨Mw11, Kw11, zw11⟩
 rw [Ex] at Mw11
 replace hM1 := Mw11
 replace hW := hW.sto Kw11 oQ
 refine LW.pp (.build (cs := #[.func (.func 84) #[] #[], .func (.func 70) #[] #[]]) underlying76 zeroValue76 C2 (.cons (.func _) (.cons (.func _) .nil)) rfl) ?_
 refine LW.E (.insert (k := ((10 + 1 : Nat) : Int)) (v := Vt ((10 + 1 : Nat) : Int)) underlying70 underlying3 (.t rfl) (.const _) (.t rfl) hM1) ?_
 rintro w12 ⟨Mw12, Kw12, zw12⟩
 rw [Ex] at Mw12
 replace hM1 := Mw12
 replace hW := hW.sto Kw12 oQ
 refine LW.M rfl (LW.A rfl (LW.T (CW.ret ?_)))
 refine Af rfl rfl ⟨_, rfl, ?_⟩
 exact ⟨_, rfl, hM1, by omega, hW⟩
end Go.Proofs.YtmimclgihlhaeaaGreat
namespace Go.Wx
abbrev E3 := List (List UInt8 × Fact)
def Rn (m : E3) (k : List UInt8) : Option Fact := (m.find? fun p => p.1 == k).map (·.2)
def Le (m : E3) (k : List UInt8) (f : Fact) : E3 := if k ∈ m.map (·.1) then m.map (fun p => if p.1 = k then (k, f) else p) else m ++ [(k, f)]
def Oz (m : E3) : List (List UInt8 × Go.Value) := m.map fun p => (p.1, .agg p.2.cells)
theorem L7 (m : E3) : (Oz m).map (·.1) = m.map (·.1) := by simp [Oz]
theorem W0 (m : E3) (k : List UInt8) (f : Fact) : Ms.D7 (Oz m) k (.agg f.cells) = Oz (Le m k f) := by
 unfold Ms.D7 Le
 rw [L7]
 split
 · simp only [Oz, List.map_map]
   apply List.map_congr_left
   intro p _
   simp only [Function.comp]
   split <;> rfl
 simp [Oz]
theorem eH {m : E3} {k : List UInt8} {f : Fact} (h : Rn m k = some f) : (k, .agg f.cells) ∈ Oz m := by
 unfold Rn at h
 cases hf : m.find? (fun p => p.1 == k) with
 | none => rw [hf] at h; cases h
 | some p =>
   rw [hf] at h
   have h1 := List.mem_of_find?_eq_some hf
   have h2 : (p.1 == k) = true := List.find?_some (p := fun p : List UInt8 × Fact => p.1 == k) hf
   have h3 := eq_of_beq h2
   simp at h
   refine List.mem_map.2 ⟨p, h1, ?_⟩
   rw [h3, h]
theorem Tt {m : E3} {k : List UInt8} (h : Rn m k = none) : k ∉ (Oz m).map (·.1) := by
 rw [L7]
 intro hm
 obtain ⟨p, hp, e⟩ := List.mem_map.1 hm
 unfold Rn at h
 rw [Option.map_eq_none_iff, List.find?_eq_none] at h
 exact h p hp (by simp [e])
def Cp (day : Int) (m : E3) (f : Fact) : E3 := if A6 f = [] ∨ day < f.Day then m else match Rn m (A6 f) with
 | none => Le m (A6 f) f
 | some old => if D9 f old = true then Le m (A6 f) f else m
def E6 (l : List Fact) (day : Int) : E3 := l.foldl (Cp day) []
theorem Jl {l : List Fact} {day : Int} {k : Nat} {x : Fact} (h : l[k]? = some x) : E6 (l.take (k + 1)) day = Cp day (E6 (l.take k) day) x := by
 rw [A4 h, E6, List.foldl_append]; rfl
theorem Dk {day : Int} {m : E3} {x : Fact} (h : A6 x = [] ∨ day < x.Day) : Cp day m x = m := by rw [Cp, if_pos h]
theorem Jm {day : Int} {m : E3} {x : Fact} (h : ¬ (A6 x = [] ∨ day < x.Day)) (hg : Rn m (A6 x) = none) : Cp day m x = Le m (A6 x) x := by rw [Cp, if_neg h, hg]
theorem Jn {day : Int} {m : E3} {x old : Fact} (h : ¬ (A6 x = [] ∨ day < x.Day)) (hg : Rn m (A6 x) = some old) (hp : D9 x old = true) : Cp day m x = Le m (A6 x) x := by rw [Cp, if_neg h, hg]; simp [hp]
theorem Jo {day : Int} {m : E3} {x old : Fact} (h : ¬ (A6 x = [] ∨ day < x.Day)) (hg : Rn m (A6 x) = some old) (hp : D9 x old = false) : Cp day m x = m := by rw [Cp, if_neg h, hg]; simp [hp]
def MOk (m : E3) : Prop := ∀ p ∈ m, p.1 = A6 p.2 ∧ A5 p.2 = true
theorem Ff {f : Fact} (h : A6 f ≠ []) : A5 f = true := by
 cases hv : A5 f with
 | true => rfl
 | false => rw [A6, if_neg (by rw [hv]; exact Bool.false_ne_true)] at h; exact absurd rfl h
theorem MOk.set {m : E3} {f : Fact} (h : MOk m) (hf : A5 f = true) : MOk (Le m (A6 f) f) := by
 intro p hp
 unfold Le at hp
 split at hp
 · obtain ⟨q, hq, e⟩ := List.mem_map.1 hp
   split at e
   · rw [← e]; exact ⟨rfl, hf⟩
   rw [← e]; exact h q hq
 rcases List.mem_append.1 hp with hp | hp
 · exact h p hp
 simp at hp; rw [hp]; exact ⟨rfl, hf⟩
theorem W5 (m : E3) (k : List UInt8) (f : Fact) : (Le m k f).length ≤ m.length + 1 := by
 unfold Le
 split <;> simp
theorem MOk.step {m : E3} (h : MOk m) (day : Int) (f : Fact) : MOk (Cp day m f) ∧ (Cp day m f).length ≤ m.length + 1 := by
 unfold Cp
 split
 · exact ⟨h, by omega⟩
 rename_i hk
 have hv : A5 f = true := Ff fun e => hk (.inl e)
 split
 · exact ⟨h.set hv, W5 _ _ _⟩
 split
 · exact ⟨h.set hv, W5 _ _ _⟩
 exact ⟨h, by omega⟩
theorem U2 (day : Int) : ∀ (l : List Fact), MOk (E6 l day) ∧ (E6 l day).length ≤ l.length := by
 have : ∀ (l : List Fact) (m : E3), MOk m → MOk (l.foldl (Cp day) m) ∧ (l.foldl (Cp day) m).length ≤ m.length + l.length := by
   intro l
   induction l with
   | nil => intro m h; exact ⟨h, by simp⟩
   | cons x l ih =>
     intro m h
     have h1 := h.step day x
     have h2 := ih _ h1.1
     exact ⟨h2.1, by have := h2.2; simp only [List.foldl_cons, List.length_cons]; omega⟩
 intro l
 have h := this l [] (fun p hp => by simp at hp)
 exact ⟨h.1, by have := h.2; simp only [List.length_nil, Nat.zero_add] at this; exact this⟩
def Dp (dn : List Int) (ds : List Fact) (j : Nat) : List Fact :=
 if ((j + 1 : Nat) : Int) ∈ dn then Iv (Kt ((j + 1 : Nat) : Int)) (ds.filter fun f => !f.Gone && decide (f.Kind = ((j + 1 : Nat) : Int))) else ds.filter fun f => !f.Gone && decide (f.Kind = ((j + 1 : Nat) : Int))
def W6 (dn : List Int) (ds : List Fact) : List (List Fact) := (List.range 11).map (Dp dn ds)
theorem Hq (dn : List Int) (ds : List Fact) : (W6 dn ds).length = 11 := by simp [W6]
theorem F2 (dn : List Int) (ds : List Fact) {j : Nat} (hj : j < 11) : (W6 dn ds)[j]? = some (Dp dn ds j) := by simp [W6, hj]
theorem Ny {ds : List Fact} {x : Fact} (h : x.Gone = true) : W6 [] (ds ++ [x]) = W6 [] ds := by
 unfold W6
 apply List.map_congr_left
 intro j _
 simp [Dp, h]
theorem Qk {ds : List Fact} {x : Fact} {j : Nat} (h : x.Gone = false) (hj : j < 11) (hk : x.Kind = ((j + 1 : Nat) : Int)) : W6 [] (ds ++ [x]) = (W6 [] ds).set j (Dp [] ds j ++ [x]) := by
 apply List.ext_getElem?
 intro i
 rw [List.getElem?_set]
 by_cases e : j = i
 · subst e
   rw [if_pos rfl, if_pos (by rw [Hq]; exact hj), F2 _ _ hj]
   simp [Dp, h, hk]
 rw [if_neg e]
 by_cases hi : i < 11
 · rw [F2 _ _ hi, F2 _ _ hi]
   have : decide (x.Kind = ((i + 1 : Nat) : Int)) = false := decide_eq_false oQ
   simp only [Dp, List.not_mem_nil, if_false, List.filter_append]
   rw [List.filter_cons, if_neg (by rw [this, Bool.and_false]; exact Bool.false_ne_true)]
   simp
 rw [List.getElem?_eq_none (by rw [Hq]; omega), List.getElem?_eq_none (by rw [Hq]; omega)]
theorem iN {dn : List Int} {ds : List Fact} {j : Nat} (hj : j < 11) (hn : ((j + 1 : Nat) : Int) ∉ dn) : (W6 dn ds).set j (Iv (Kt ((j + 1 : Nat) : Int)) (Dp dn ds j)) = W6 (dn ++ [((j + 1 : Nat) : Int)]) ds := by
 apply List.ext_getElem?
 intro i
 rw [List.getElem?_set]
 by_cases e : j = i
 · subst e
   rw [if_pos rfl, if_pos (by rw [Hq]; exact hj), F2 _ _ hj]
   unfold Dp
   rw [if_neg hn, if_pos (List.mem_append_right _ (List.mem_singleton.2 rfl))]
 rw [if_neg e]
 by_cases hi : i < 11
 · rw [F2 _ _ hi, F2 _ _ hi]
   have : ((i + 1 : Nat) : Int) ≠ ((j + 1 : Nat) : Int) := by omega
   simp only [Dp, List.mem_append, List.mem_singleton, this, or_false]
 rw [List.getElem?_eq_none (by rw [Hq]; omega), List.getElem?_eq_none (by rw [Hq]; omega)]
theorem U3 (dn : List Int) (ds : List Fact) (j : Nat) : (Dp dn ds j).length ≤ ds.length := by
 unfold Dp
 split
 · rw [(Fo _).same.length]; exact List.length_filter_le _ _
 exact List.length_filter_le _ _
theorem mP : W6 [] [] = List.replicate 11 ([] : List Fact) := by
 rfl
theorem mQ (vs : List Go.Value) (j : Nat) (v : Go.Value) : vs.toArray.setIfInBounds j v = (vs.set j v).toArray := by simp
theorem eI {x : Fact} (h : A6 x = []) : ((⟨(A6 x).toArray⟩ : ByteArray).toList == (⟨#[]⟩ : ByteArray).toList) = true := by rw [Hw, Hw, h]; rfl
theorem iO {x : Fact} (h : A6 x ≠ []) : ((⟨(A6 x).toArray⟩ : ByteArray).toList == (⟨#[]⟩ : ByteArray).toList) = false := by
 rw [Hw, Hw]
 simpa using h
theorem U4 {vs : List Go.Value} (h : vs.length = 11) : ∃ v0 v1 v2 v3 v4 v5 v6 v7 v8 v9 v10, vs = [v0, v1, v2, v3, v4, v5, v6, v7, v8, v9, v10] := by
 match vs, h with
 | [v0, v1, v2, v3, v4, v5, v6, v7, v8, v9, v10], _ => exact ⟨v0, v1, v2, v3, v4, v5, v6, v7, v8, v9, v10, rfl⟩
def Tu (ds : List Fact) : Base := ⟨Dp [1] ds 0, Dp [2] ds 1, Dp [3] ds 2, Dp [4] ds 3, Dp [5] ds 4, Dp [6] ds 5, Dp [7] ds 6, Dp [8] ds 7, Dp [9] ds 8, Dp [10] ds 9, Dp [11] ds 10⟩
theorem W7 {dn : List Int} {ds : List Fact} {j : Nat} (h : ((j + 1 : Nat) : Int) ∈ dn) : Dp dn ds j = Dp [((j + 1 : Nat) : Int)] ds j := by
 unfold Dp
 rw [if_pos h, if_pos (List.mem_singleton.2 rfl)]
end Go.Wx
namespace Go.Proofs.YtmimclgihlhaeaaGreat
open Go.Proofs.Tryz
open Go.Wx Go.RowKit
end Go.Proofs.YtmimclgihlhaeaaGreat
namespace Go.Wx
theorem Ro {ds : List Fact} {x : Fact} (h : (ds.map A6).Nodup) (hf : A6 x ∉ ds.map A6) : ((ds ++ [x]).map A6).Nodup := by
 rw [List.map_append, List.nodup_append]
 exact ⟨h, by simp, fun a ha c hc => by simp at hc; subst hc; exact fun e => hf (e ▸ ha)⟩
theorem Rp {ds : List Fact} {M : E3} (h : ∀ f ∈ ds, (A6 f, f) ∈ M) (hn : (ds.map A6).Nodup) : ds.length ≤ M.length := by
 have := hn.length_le_of_subset (l₂ := M.map (·.1)) (fun k hk => by
   obtain ⟨f, hf, rfl⟩ := List.mem_map.1 hk
   exact List.mem_map.2 ⟨_, h f hf, rfl⟩)
 simpa using this
theorem Lf {ds : List Fact} {M : E3} {x : Fact} (h : ∀ f ∈ ds, (A6 f, f) ∈ M) (hn : (ds.map A6).Nodup) (hx : (A6 x, x) ∈ M) (hf : A6 x ∉ ds.map A6) : ds.length + 1 ≤ M.length := by
 have := Rp (ds := ds ++ [x]) (M := M) (fun f hf => by rcases List.mem_append.1 hf with hf | hf; exact h f hf; simp at hf; rw [hf]; exact hx) (Ro hn hf)
 simpa using this
theorem eJ {dn : List Int} (h : dn.Nodup ∧ ∀ k ∈ dn, 1 ≤ k ∧ k ≤ 11) : dn.length ≤ 11 := by
 have := h.1.length_le_of_subset (l₂ := [1, 2, 3, 4, 5, 6, 7, 8, 9, 10, 11]) (fun k hk => by
   have := h.2 k hk
   simp; omega)
 simpa using this
theorem eK {dn : List Int} {k : Int} (h : dn.Nodup ∧ ∀ k ∈ dn, 1 ≤ k ∧ k ≤ 11) (hk : 1 ≤ k ∧ k ≤ 11) (hf : k ∉ dn) : dn.length + 1 ≤ 11 := by
 have := eJ (dn := dn ++ [k]) ⟨List.nodup_append.2 ⟨h.1, by simp, fun a ha c hc => by simp at hc; subst hc; exact fun e => hf (e ▸ ha)⟩, fun q hq => by rcases List.mem_append.1 hq with hq | hq; exact h.2 q hq; simp at hq; rw [hq]; exact hk⟩
 simpa using this
theorem Nz {α : Type} {vs : List α} {j : Nat} {v : α} (h : vs[j]? = some v) : vs.set j v = vs := by
 apply List.ext_getElem?
 intro i
 rw [List.getElem?_set]
 by_cases e : j = i
 · subst e
   rw [if_pos rfl, if_pos (List.getElem?_eq_some_iff.1 h).1, h]
 rw [if_neg e]
theorem Fg {e : Nat} {dn : List Int} {ds : List Fact} {vs : List Go.Value} {w : World} (h : (D8 (lists e 19 Fact.cells vs (W6 dn ds))).holds w) {j : Nat} {v : Go.Value} (hv : vs[j]? = some v) (hj : j < 11) (hin : ((j + 1 : Nat) : Int) ∈ dn) : Sl w v 19 Fact.cells (Dp [((j + 1 : Nat) : Int)] ds j) := by
 have := (Jk h hv (F2 _ _ hj)).sl (fun _ => rfl)
 rwa [W7 hin] at this
theorem iP {e : Nat} {dn : List Int} {ds : List Fact} {vs : List Go.Value} {w : World} (h : (D8 (lists e 19 Fact.cells vs (W6 dn ds))).holds w) {j : Nat} {v : Go.Value} (hv : vs[j]? = some v) (hj : j < 11) (hin : ((j + 1 : Nat) : Int) ∈ dn) : OwnS w 0 e 19 Fact.cells v (Dp [((j + 1 : Nat) : Int)] ds j) := by
 have := Jk h hv (F2 _ _ hj)
 rwa [W7 hin] at this
def oK (base : Nat) (bc : Array Go.Value) : Prop := ∀ (j : Nat) (v : Go.Value), bc[j]? = some v → ∀ i, v.ownBlock = some i → base ≤ i
theorem Zh {α : Type} {e k base : Nat} {enc : α → Array Go.Value} {vs : List Go.Value} {xss : List (List α)} (hl : vs.length = xss.length) (h : ∀ i, (D8 (lists e k enc vs xss)).foot i → base ≤ i) : oK base vs.toArray := fun j v hv i hi => by
 have hv2 : vs[j]? = some v := by simpa using hv
 have hlt := (List.getElem?_eq_some_iff.1 hv2).1
 obtain ⟨xs, hx⟩ := Ac (xs := xss) (i := j) oQ
 exact h i ⟨_, List.mem_of_getElem? (L6 hv2 hx), hi⟩
theorem mR {vs : List Go.Value} (h : ∀ v ∈ vs, v.oneCell' = true) : vs.toArray.all (·.oneCell') = true := by
 rw [Array.all_eq_true_iff_forall_mem]
 intro v hv
 exact h v (by simpa using hv)
end Go.Wx
namespace Go.Proofs.YtmimclgihlhaeaaGreat
open Go.Proofs.Tryz
open Go.Wx Go.RowKit
set_option maxHeartbeats 8000000 in
theorem mS (ad : Option Addr) (cp : Nat) (l : List Fact) (day : Int) (w : World) (hE0 : Els w ad 19 Fact.cells l) (hl : l.length ≤ 100000) : Ret Tryz.prog 13 #[.slice ad l.length cp, vi day] w fun r w' => ∃ bc ds, r = .agg bc ∧ BaseC w' bc (Tu ds) ∧ (∀ f ∈ ds, (A6 f, f) ∈ E6 l day) ∧ (ds.map A6).Perm ((E6 l day).map (·.1)) ∧ oK w.heap.size bc ∧ (∃ v, bc[0]? = some v ∧ OwnS w' 0 36 19 Fact.cells v (Tu ds).Processes) ∧ Up w w' := by
 obtain ⟨w0, rfl⟩ : ∃ w0, w0 = w := ⟨_, rfl⟩
 have hS := Sep.start no w0
 refine cS (n := 91) (m := 9) func13 rfl rfl rfl ?_
 refine CW.S ?_
 refine Ah (.A7 zeroValue38) rfl ?_
 rintro _ w1 ⟨B4, rfl, NB4⟩
 have eB4 := NB4.at_
 have zB4 := NB4.size
 replace hS := hS.C7 NB4
 change Wx.Sep _ _ _ [_] at hS
 refine LW.S (CW.region ?_)
 refine LW.r Ms.REv.makeMap rfl rfl rfl rfl ?_
 rintro _ w2 ⟨B18, rfl, M18, u18, e18, z18⟩
 replace hS := hS.add u18 (A' := Ms.Cc B18 (Oz [])) M18 (fun i (e : i = B18) => by omega)
 change Wx.Sep _ _ _ [_, _] at hS
 refine LW.A rfl (LW.S (CW.S (LW.M rfl ?_)))
 refine LW.pp (.Dq underlying23 (.t rfl)) ?_
 refine LW.pp (.move (.const _)) ?_
 refine LW.T (CW.block ?_)
 refine Am (σ := Nat) (fun s w => (s ≤ l.length) ∧ (Wx.Sep no w0 w [Cq B4 #[.slice none 0 0, .slice none 0 0, .slice none 0 0, .slice none 0 0, .slice none 0 0, .slice none 0 0, .slice none 0 0, .slice none 0 0, .slice none 0 0, .slice none 0 0, .slice none 0 0] 38, Ms.Cc B18 (Oz (E6 (l.take s) day))])) (fun s => [(21, .eq (vi (s : Int)))]) ([(1, .eq _), (4, .eq _), (5, .eq _), (19, .eq _), (20, .eq _)]) (fun s => l.length - s) 0 ?_ ⟨rfl, rfl, rfl, rfl, rfl, rfl, trivial⟩ ?_
 ·exact ⟨Nat.zero_le _, hS⟩
 rintro k w3 ⟨hkk, hS⟩
 refine CW.S ?_
 refine LW.pp (.lss (.t rfl) (.t rfl)) ?_
 refine LW.S ?_
 refine CW.cond (.t rfl) (fun h22 => ?_) (fun h22 => ?_)
 ·replace h22 := dQ h22
  refine CW.skip (KW.then (CW.seq (CW.block (CW.seq ?_))))
  have hE := Els.up hE0 hS.Cu
  have hkl : k < l.length := by simp at h22; omega
  refine CW.region ?_
  obtain ⟨x, hx⟩ := Ac (xs := l) (i := k) oQ
  obtain ⟨Bx, ox, ax, hcx⟩ := hE _ x hx
  refine LW.pp (.An underlying23 sizeOf36 (.t rfl) (.t rfl) oQ ax) ?_
  refine LW.pp (.la isAgg36 sizeOf36 rfl (hcx)) ?_
  refine Ah (.A7 zeroValue36) rfl ?_
  rintro _ w4 ⟨B7, rfl, MB7⟩
  refine LW.E (.A3 sizeOf36 rfl (.t rfl) (.t rfl) eQ MB7.blk rfl) ?_
  intro w5 LB7
  have NB7 := MB7.set LB7
  clear LB7 MB7
  have eB7 := NB7.at_
  have zB7 := NB7.size
  replace hcx := hcx.up NB7.up
  replace hS := hS.C7 NB7
  change Wx.Sep _ _ _ [_, _, _] at hS
  refine LW.S (CW.region ?_)
  refine LW.pp (.la isAgg36 sizeOf36 rfl ((hS.blk 2 rfl).agg)) ?_
  refine LW.K (eC (.o rfl) (oX)) rfl (Uu x _) ?_
  rintro _ w6 ⟨rfl, uw6⟩
  have zw6 := uw6.size
  replace hS := hS.up uw6
  refine LW.A rfl (LW.S (CW.seq ?_))
  cases hq6 : decide (A6 x = []) with
  | true =>
   replace hq6 := of_decide_eq_true hq6
   refine CW.region (LW.M rfl ?_)
   refine LW.pp (.tr (Q2 (.t rfl) (.const _)) (eI hq6)) ?_
   refine LW.M rfl ?_
   refine LW.N ?_
   refine LW.N ?_
   refine LW.N ?_
   refine LW.N ?_
   refine LW.pp (.tr (PEv.Cd (b := false) (.t rfl) (fun hp => absurd (show true = false from hp) cQ)) (rfl)) ?_
   refine LW.T ?_
   refine CW.cond_true (.t rfl) ?_
   refine CW.exit (Aa (Ad (KW.then (CW.region ?_))))
   refine LW.pp (.inc (.t rfl) oQ) ?_
   refine LW.M rfl (LW.nil (KW.round ?_))
   exact ⟨k + 1, ⟨by omega, by rw [Jl hx]; first | (rw [Dk (.inl hq6)]; exact hS.take 2) | (rw [Dk (.inr h34)]; exact hS.take 2) | (rw [Jm hno hq7]; exact hS.take 2) | (rw [Jn hno hq7 h47]; exact hS.take 2) | (rw [Jo hno hq7 h47]; exact hS.take 2)⟩, ⟨rfl, rfl, rfl, rfl, rfl, rfl, trivial⟩, by first | omega | (dsimp only; omega)⟩
  | false =>
   replace hq6 := of_decide_eq_false hq6
   refine CW.region (LW.M rfl ?_)
   refine LW.pp (.fa (Q2 (.t rfl) (.const _)) (iO hq6)) ?_
   refine LW.M rfl ?_
   refine LW.Y ?_
   refine LW.pp (.fA 3 underlying36 rfl sizeOf3 rfl) ?_
   refine LW.Y ?_
   refine LW.pp (.ld isAgg3 rfl ((hS.blk 2 rfl).Ak rfl)) ?_
   refine LW.Y ?_
   refine LW.M rfl ?_
   refine LW.Y ?_
   refine LW.pp (.gtr (.t rfl) (.t rfl)) ?_
   refine LW.pp (.Cd (.t rfl) (fun hp => (by first | exact .const _ | exact .tmp rfl | exact .cond rfl (by first | assumption | simp_all)))) ?_
   refine LW.T ?_
   refine CW.cond (.t rfl) (fun h34 => ?_) (fun h34 => ?_)
   ·replace h34 := dQ h34
    skip
    refine CW.exit (Aa (Ad (KW.then (CW.region ?_))))
    refine LW.pp (.inc (.t rfl) oQ) ?_
    refine LW.M rfl (LW.nil (KW.round ?_))
    exact ⟨k + 1, ⟨by omega, by rw [Jl hx]; first | (rw [Dk (.inl hq6)]; exact hS.take 2) | (rw [Dk (.inr h34)]; exact hS.take 2) | (rw [Jm hno hq7]; exact hS.take 2) | (rw [Jn hno hq7 h47]; exact hS.take 2) | (rw [Jo hno hq7 h47]; exact hS.take 2)⟩, ⟨rfl, rfl, rfl, rfl, rfl, rfl, trivial⟩, by first | omega | (dsimp only; omega)⟩
   replace h34 := dQ h34
   have hno : ¬ (A6 x = [] ∨ day < x.Day) := fun h => h.elim hq6 (fun h2 => by simp at h34; omega)
   refine CW.skip (KW.then (CW.seq ?_))
   cases hq7 : Rn (E6 (l.take k) day) (A6 x) with
   | none =>
    refine CW.region (LW.M rfl (LW.M rfl ?_))
    refine LW.pp (Ms.PEv.G7 underlying66 underlying9 zeroValue36 (.t rfl) (.t rfl) (hS.get 1 rfl) (Tt hq7)) ?_
    refine LW.M rfl (LW.pp (.extract (.t rfl) rfl) (LW.pp (.extract (.t rfl) rfl) ?_))
    refine Ah (.A7 zeroValue36) rfl ?_
    rintro _ w7 ⟨B9, rfl, MB9⟩
    refine LW.E (.A3 sizeOf36 rfl (.t rfl) (.t rfl) eQ MB9.blk rfl) ?_
    intro w8 LB9
    have NB9 := MB9.set LB9
    clear LB9 MB9
    have eB9 := NB9.at_
    have zB9 := NB9.size
    replace hS := hS.C7 NB9
    change Wx.Sep _ _ _ [_, _, _, _] at hS
    refine LW.A rfl (LW.S (CW.region (LW.M rfl ?_)))
    refine LW.pp (.tr (PEv.not (.t rfl)) (rfl)) ?_
    refine LW.M rfl ?_
    refine LW.N ?_
    refine LW.N ?_
    refine LW.N ?_
    refine LW.pp (.tr (PEv.Cd (b := false) (.t rfl) (fun hp => absurd (show true = false from hp) cQ)) (rfl)) ?_
    refine LW.T ?_
    refine CW.cond_true (.t rfl) ?_
    refine CW.region (LW.M rfl (LW.M rfl ?_))
    refine LW.pp (.la isAgg36 sizeOf36 rfl ((hS.blk 2 rfl).agg)) ?_
    refine LW.E (Ms.SEv.mapUpdate underlying66 underlying9 (.t rfl) (.t rfl) (.t rfl) (hS.get 1 rfl)) ?_
    rintro w9 ⟨Mu, Ku, zu⟩
    rw [W0] at Mu
    replace hS := hS.Dj 1 rfl (Ms.Kb Mu Ku)
    change Wx.Sep _ _ _ [_, _, _, _] at hS
    refine LW.nil (KW.inBlock (KW.then (CW.region ?_)))
    refine LW.pp (.inc (.t rfl) oQ) ?_
    refine LW.M rfl (LW.nil (KW.round ?_))
    exact ⟨k + 1, ⟨by omega, by rw [Jl hx]; first | (rw [Dk (.inl hq6)]; exact hS.take 2) | (rw [Dk (.inr h34)]; exact hS.take 2) | (rw [Jm hno hq7]; exact hS.take 2) | (rw [Jn hno hq7 h47]; exact hS.take 2) | (rw [Jo hno hq7 h47]; exact hS.take 2)⟩, ⟨rfl, rfl, rfl, rfl, rfl, rfl, trivial⟩, by first | omega | (dsimp only; omega)⟩
   | some old =>
    refine CW.region (LW.M rfl (LW.M rfl ?_))
    refine LW.pp (Ms.PEv.C1 underlying66 underlying9 (.t rfl) (.t rfl) (hS.get 1 rfl) (eH hq7)) ?_
    refine LW.M rfl (LW.pp (.extract (.t rfl) rfl) (LW.pp (.extract (.t rfl) rfl) ?_))
    refine Ah (.A7 zeroValue36) rfl ?_
    rintro _ w10 ⟨B9, rfl, MB9⟩
    refine LW.E (.A3 sizeOf36 rfl (.t rfl) (.t rfl) eQ MB9.blk rfl) ?_
    intro w11 LB9
    have NB9 := MB9.set LB9
    clear LB9 MB9
    have eB9 := NB9.at_
    have zB9 := NB9.size
    replace hS := hS.C7 NB9
    change Wx.Sep _ _ _ [_, _, _, _] at hS
    refine LW.A rfl (LW.S (CW.region (LW.M rfl ?_)))
    refine LW.pp (.fa (PEv.not (.t rfl)) (rfl)) ?_
    refine LW.M rfl ?_
    refine LW.Y ?_
    refine LW.pp (.la isAgg36 sizeOf36 rfl ((hS.blk 2 rfl).agg)) ?_
    refine LW.Y ?_
    refine LW.pp (.la isAgg36 sizeOf36 rfl ((hS.blk 3 rfl).agg)) ?_
    refine LW.Y ?_
    refine LW.K (eC (.u rfl rfl) (uX)) rfl (Uw x old _) ?_
    rintro _ w12 ⟨rfl, uw12⟩
    have zw12 := uw12.size
    replace hS := hS.up uw12
    refine LW.pp (.Cd (.t rfl) (fun hp => (by first | exact .const _ | exact .tmp rfl | exact .cond rfl (by first | assumption | simp_all)))) ?_
    refine LW.T ?_
    refine CW.cond (.t rfl) (fun h47 => ?_) (fun h47 => ?_)
    ·replace h47 := dQ h47
     replace h47 : D9 x old = true := by simpa using h47
     refine CW.region (LW.M rfl (LW.M rfl ?_))
     refine LW.pp (.la isAgg36 sizeOf36 rfl ((hS.blk 2 rfl).agg)) ?_
     refine LW.E (Ms.SEv.mapUpdate underlying66 underlying9 (.t rfl) (.t rfl) (.t rfl) (hS.get 1 rfl)) ?_
     rintro w13 ⟨Mu, Ku, zu⟩
     rw [W0] at Mu
     replace hS := hS.Dj 1 rfl (Ms.Kb Mu Ku)
     change Wx.Sep _ _ _ [_, _, _, _] at hS
     refine LW.nil (KW.inBlock (KW.then (CW.region ?_)))
     refine LW.pp (.inc (.t rfl) oQ) ?_
     refine LW.M rfl (LW.nil (KW.round ?_))
     exact ⟨k + 1, ⟨by omega, by rw [Jl hx]; first | (rw [Dk (.inl hq6)]; exact hS.take 2) | (rw [Dk (.inr h34)]; exact hS.take 2) | (rw [Jm hno hq7]; exact hS.take 2) | (rw [Jn hno hq7 h47]; exact hS.take 2) | (rw [Jo hno hq7 h47]; exact hS.take 2)⟩, ⟨rfl, rfl, rfl, rfl, rfl, rfl, trivial⟩, by first | omega | (dsimp only; omega)⟩
    replace h47 := dQ h47
    replace h47 : D9 x old = false := by simpa using h47
    refine CW.skip (KW.inBlock (KW.then (CW.region ?_)))
    refine LW.pp (.inc (.t rfl) oQ) ?_
    refine LW.M rfl (LW.nil (KW.round ?_))
    exact ⟨k + 1, ⟨by omega, by rw [Jl hx]; first | (rw [Dk (.inl hq6)]; exact hS.take 2) | (rw [Dk (.inr h34)]; exact hS.take 2) | (rw [Jm hno hq7]; exact hS.take 2) | (rw [Jn hno hq7 h47]; exact hS.take 2) | (rw [Jo hno hq7 h47]; exact hS.take 2)⟩, ⟨rfl, rfl, rfl, rfl, rfl, rfl, trivial⟩, by first | omega | (dsimp only; omega)⟩
 replace h22 := dQ h22
 refine CW.exit (Aa (Aa (Ad (KW.then (CW.seq ?_)))))
 have hkl : k = l.length := by simp at h22; omega
 subst hkl
 rw [List.take_length] at hS
 obtain ⟨M, hM⟩ : ∃ M, M = E6 l day := ⟨_, rfl⟩
 rw [← hM] at hS
 have hMo := (U2 day l).1
 have hMl := (U2 day l).2
 rw [← hM] at hMo hMl
 refine CW.region ?_
 refine Ah (.A7 zeroValue38) rfl ?_
 rintro _ w14 ⟨B11, rfl, NB11⟩
 have eB11 := NB11.at_
 have zB11 := NB11.size
 replace hS := hS.C7 NB11
 change Wx.Sep _ _ _ [_, _, _] at hS
 refine LW.S (CW.region ?_)
 refine LW.K (eC .nil (uY)) rfl (eG _) ?_
 rintro _ w15 ⟨bk, rfl, hKm, hKb, uw15⟩
 have zw15 := uw15.size
 replace hS := hS.add uw15 (A' := Cc bk (P4 Vt 11)) (hKm) (fun i (e : i = bk) => by omega)
 change Wx.Sep _ _ _ [_, _, _, _] at hS
 refine LW.A rfl (LW.S (CW.seq ?_))
 have hLn := eF 36 19 Fact.cells 11 w15
 replace hS := hS.add (Up.refl _) (A' := D8 (lists 36 19 Fact.cells (List.replicate 11 (.slice none 0 0)) (List.replicate 11 ([] : List Fact)))) hLn.1 (fun i h => absurd h (hLn.2 i))
 rw [← mP] at hS
 change Wx.Sep _ _ _ [_, _, _, _, _] at hS
 refine CW.region (LW.M rfl ?_)
 refine Ah (Ms.REv.range underlying66 (.t rfl) (hS.get 1 rfl)) rfl ?_
 rintro _ w16 ⟨r54, rfl, hR_, uR, eR, zR⟩
 replace hS := hS.Dj 1 rfl (Ms.Gz hR_ uR eR)
 change Wx.Sep _ _ _ [_, _, _, _, _] at hS
 clear hR_
 refine LW.T (CW.block ?_)
 refine Am (σ := List Fact × List Go.Value) (fun s w => (∀ f ∈ s.1, (A6 f, f) ∈ M) ∧ ((s.1.map A6).Nodup) ∧ (s.2.length = 11) ∧ (Wx.Sep no w0 w [Cq B4 #[.slice none 0 0, .slice none 0 0, .slice none 0 0, .slice none 0 0, .slice none 0 0, .slice none 0 0, .slice none 0 0, .slice none 0 0, .slice none 0 0, .slice none 0 0, .slice none 0 0] 38, Ms.Fp B18 r54 (Oz M) (s.1.map A6), Cq B11 s.2.toArray 38, Cc bk (P4 Vt 11), D8 (lists 36 19 Fact.cells s.2 (W6 [] s.1))])) (fun s => []) ([(4, .eq _), (11, .eq _), (12, .eq _), (54, .eq _)]) (fun s => M.length - s.1.length) ([], List.replicate 11 (.slice none 0 0)) ?_ ⟨rfl, rfl, rfl, rfl, trivial⟩ ?_
 ·exact ⟨fun f h => by simp at h, List.nodup_nil, rfl, hS⟩
 rintro ⟨ds, vs⟩ w17 ⟨hds, hdn, hvl, hS⟩
 dsimp only at hds hdn hvl hS
 refine CW.S ?_
 refine Ah (Ms.REv.next (.t rfl) (hS.get 1 rfl)) rfl ?_
 rintro _ w18 (⟨rfl, rfl, hPm⟩ | ⟨k0, u0, rfl, hNx⟩)
 ·skip
  refine LW.pp (.extract (.t rfl) rfl) (LW.S ?_)
  refine CW.cond_false (.t rfl) ?_
  refine CW.exit (Aa (Aa (Ad (KW.then (CW.seq (CW.seq ?_))))))
  have hPd := hPm
  refine CW.region (LW.M rfl ?_)
  refine Ah (.range underlying70 (.t rfl) (hS.get 3 rfl)) rfl ?_
  rintro _ w19 ⟨r77, rfl, hR_, uR, eR, zR⟩
  replace hS := hS.Dj 3 rfl (Gz hR_ uR eR)
  change Wx.Sep _ _ _ [_, _, _, _, _] at hS
  clear hR_
  refine LW.T (CW.block ?_)
  refine Am (σ := List Int) (fun s w => (s.Nodup ∧ ∀ k ∈ s, 1 ≤ k ∧ k ≤ 11) ∧ (Wx.Sep no w0 w [Cq B4 #[.slice none 0 0, .slice none 0 0, .slice none 0 0, .slice none 0 0, .slice none 0 0, .slice none 0 0, .slice none 0 0, .slice none 0 0, .slice none 0 0, .slice none 0 0, .slice none 0 0] 38, Ms.Fp B18 r54 (Oz M) (ds.map A6), Cq B11 vs.toArray 38, Fp bk r77 (P4 Vt 11) s, D8 (lists 36 19 Fact.cells vs (W6 s ds))])) (fun s => []) ([(4, .eq _), (11, .eq _), (77, .eq _)]) (fun s => 11 - s.length) [] ?_ ⟨rfl, rfl, rfl, trivial⟩ ?_
  ·exact ⟨⟨List.nodup_nil, fun k h => by simp at h⟩, hS⟩
  rintro dn w20 ⟨hdk, hS⟩
  refine CW.S ?_
  refine Ah (.next (.t rfl) (hS.get 3 rfl)) rfl ?_
  rintro _ w21 (⟨rfl, rfl, hPm⟩ | ⟨kk, u0, rfl, hNx⟩)
  ·skip
   refine LW.pp (.extract (.t rfl) rfl) (LW.S ?_)
   refine CW.cond_false (.t rfl) ?_
   refine CW.exit (Aa (Aa (Ad (KW.then (CW.seq ?_)))))
   obtain ⟨v0, v1, v2, v3, v4, v5, v6, v7, v8, v9, v10, rfl⟩ := U4 hvl
   have hv1 := Tr (hS.get 4 rfl) (by rw [hvl, Hq])
   refine CW.region ?_
   refine LW.pp (.la isAgg38 sizeOf38 rfl ((hS.blk 2 rfl).agg)) ?_
   refine LW.E (.A3 sizeOf38 rfl (.t rfl) (.t rfl) (mR hv1) (hS.blk 0 rfl) rfl) ?_
   intro w22 Nw22
   have zw22 := Nw22.size
   replace hS := hS.Gf 0 rfl Nw22
   change Wx.Sep _ _ _ [_, _, _, _, _] at hS
   refine LW.T (CW.ret ?_)
   refine Fa rfl rfl isAgg38 sizeOf38 rfl ((hS.blk 0 rfl).agg) ⟨_, rfl, ?_⟩
   have hOw := hS.get 4 rfl
   have hin : ∀ k : Nat, k < 11 → ((k + 1 : Nat) : Int) ∈ dn := fun k hk => hPm.symm.subset (List.mem_map.2 ⟨(((k + 1 : Nat) : Int), Vt ((k + 1 : Nat) : Int)), Lc.2 ⟨by omega, by omega, rfl⟩, rfl⟩)
   exact ⟨_, ds, rfl, ⟨v0, v1, v2, v3, v4, v5, v6, v7, v8, v9, v10, rfl, Fg hOw (j := 0) rfl cQ (hin 0 cQ), Fg hOw (j := 1) rfl cQ (hin 1 cQ), Fg hOw (j := 2) rfl cQ (hin 2 cQ), Fg hOw (j := 3) rfl cQ (hin 3 cQ), Fg hOw (j := 4) rfl cQ (hin 4 cQ), Fg hOw (j := 5) rfl cQ (hin 5 cQ), Fg hOw (j := 6) rfl cQ (hin 6 cQ), Fg hOw (j := 7) rfl cQ (hin 7 cQ), Fg hOw (j := 8) rfl cQ (hin 8 cQ), Fg hOw (j := 9) rfl cQ (hin 9 cQ), Fg hOw (j := 10) rfl cQ (hin 10 cQ)⟩, fun f hf => hM ▸ hds f hf, by rw [L7] at hPd; exact hM ▸ hPd, Zh (by rw [Hq]; rfl) (fun i hi => (hS.foot 4 rfl i hi).resolve_left fun h => h), ⟨v0, rfl, iP hOw (j := 0) rfl cQ (hin 0 cQ)⟩, hS.Cu⟩
  skip
  have zw21 := hNx.size
  replace hS := hS.Dj 3 rfl (Ih hNx)
  change Wx.Sep _ _ _ [_, _, _, _, _] at hS
  obtain ⟨hk1, hk2, hu0⟩ := Lc.1 hNx.mem
  subst hu0
  have hfr2 := hNx.fresh
  have hkk1 : 1 ≤ kk ∧ kk ≤ 11 := ⟨hk1, by omega⟩
  replace hk2 : kk ≤ 11 := by omega
  obtain ⟨j, hj⟩ : ∃ j, j = (kk - 1).toNat := ⟨_, rfl⟩
  have hj11 : j < 11 := by omega
  have hkk2 : kk = ((j + 1 : Nat) : Int) := by omega
  have hdl := Rp hds hdn
  obtain ⟨v, hvj⟩ := Ac (xs := vs) (i := j) oQ
  have hdk2 : (dn ++ [kk]).Nodup ∧ ∀ k ∈ dn ++ [kk], 1 ≤ k ∧ k ≤ 11 := ⟨List.nodup_append.2 ⟨hdk.1, by simp, fun a ha c hc => by simp at hc; subst hc; exact fun e => hfr2 (e ▸ ha)⟩, fun k hk => (List.mem_append.1 hk).elim (hdk.2 k) (fun h => by cases List.mem_singleton.1 h; exact hkk1)⟩
  refine LW.pp (.extract (.t rfl) rfl) (LW.S ?_)
  refine CW.cond_true (.t rfl) ?_
  refine CW.skip (KW.then (CW.block (CW.seq ?_)))
  skip
  refine CW.region ?_
  refine Ah (.entry (.t rfl) hNx.entry) rfl ?_
  rintro _ _ ⟨rfl, rfl⟩
  refine LW.pp (.val (v' := .agg #[.func (.func (Mz kk)) #[] #[], .func (.func (Nx kk)) #[] #[]]) (PEv.extract (.t rfl) rfl) rfl) ?_
  refine Ah (.A7 zeroValue76) rfl ?_
  rintro _ w23 ⟨B17, rfl, MB17⟩
  refine LW.E (.A3 sizeOf76 rfl (.t rfl) (.t rfl) eQ MB17.blk rfl) ?_
  intro w24 LB17
  have NB17 := MB17.set LB17
  clear LB17 MB17
  have eB17 := NB17.at_
  have zB17 := NB17.size
  replace hS := hS.C7 NB17
  change Wx.Sep _ _ _ [_, _, _, _, _, _] at hS
  refine LW.T ?_
  refine Hm 7 [.eq (.pointer (some ⟨B17, 0, none⟩)), .eq (.func (.func (Mz kk)) #[] #[]), .eq (.pointer (some ⟨B11, j, none⟩)), .eq (.pointer (some ⟨B11, j, none⟩)), .eq (v), .eq (.pointer (some ⟨B17, 1, none⟩)), .eq (.func (.func (Nx kk)) #[] #[])] [86, 88] kQ rfl kQ kQ kQ kQ kQ kQ kQ ⟨PhU.eq _, PhU.eq _, PhU.eq _, PhU.eq _, PhU.eq _, PhU.eq _, PhU.eq _, trivial⟩ ?_ ?_
  ·intro W hU0
   have hU := (Up.drew w24).trans hU0
   refine aC ⟨rfl, TU.p (.fA 0 underlying76 rfl sizeOf73 rfl) rfl⟩ ?_
   refine aC ⟨rfl, TU.p (.ld isAgg73 rfl (((hS.blk 5 rfl).up hU).Ak rfl)) rfl⟩ ?_
   refine aC ⟨rfl, TU.c (Cz (.t rfl) (.cons (.t rfl) .nil) (bQ kk hk1 hk2)) (Wz kk hk1 hk2 B11 _) (by rintro _ W1 ⟨rfl, u⟩; exact ⟨u, by rw [hj]; rfl⟩)⟩ ?_
   refine aC ⟨rfl, TU.p (.nilCheck (.t rfl)) rfl⟩ ?_
   refine aC ⟨rfl, TU.p (.ld isAgg23 rfl (((hS.blk 2 rfl).up hU).cell (by simpa using hvj))) rfl⟩ ?_
   refine aC ⟨rfl, TU.p (.fA 1 underlying76 rfl sizeOf74 rfl) rfl⟩ ?_
   refine aC ⟨rfl, TU.p (.ld isAgg74 rfl (((hS.blk 5 rfl).up hU).Ak rfl)) rfl⟩ ?_
   exact allL.nil
  intro w25 g hU0 hg
  have hU := (Up.drew w24).trans hU0
  have zw25 := hU.size
  replace hS := hS.up hU
  have e86 : g 86 = v := hg 4 _ 86 cQ rfl rfl
  have e88 : g 88 = .func (.func (Nx kk)) #[] #[] := hg 6 _ 88 cQ rfl rfl
  change LW _ _ _ _ _ _ _ _ ((86, .eq (g 86)) :: (88, .eq (g 88)) :: _) _
  rw [e86, e88]
  refine LW.K (eC (.u rfl rfl) (uZ)) rfl (Ka (Nx kk) (Kt kk) (pY kk hk1 hk2) (fun W x => mO kk hk1 hk2 x W) v (Dp dn ds j) _ (Jk (hS.get 4 rfl) hvj (F2 _ _ hj11)) (by have := U3 dn ds j; omega)) ?_
  rintro _ w26 ⟨rfl, hSo⟩
  replace hS := hS.Dj 4 rfl (Ld (hS.get 4 rfl) (L6 hvj (F2 _ _ hj11)) hSo)
  change Wx.Sep _ _ _ [_, _, _, _, _, _] at hS
  rw [Hy, Nz hvj, hkk2] at hS
  refine LW.nil (KW.inBlock (KW.round ?_))
  exact ⟨dn ++ [kk], ⟨hdk2, by rw [hkk2, ← iN hj11 (by rw [← hkk2]; exact hfr2)]; exact hS.take 5⟩, ⟨rfl, rfl, rfl, trivial⟩, by have := eK hdk hkk1 hfr2; simp; omega⟩
 skip
 have zw18 := hNx.size
 replace hS := hS.Dj 1 rfl (Ms.Ih hNx)
 change Wx.Sep _ _ _ [_, _, _, _, _] at hS
 obtain ⟨⟨kx, x⟩, hmem0, he0⟩ := List.mem_map.1 hNx.mem
 cases he0
 obtain ⟨hkx, hxv⟩ := hMo _ hmem0
 dsimp only at hkx hxv
 subst hkx
 have hmem := hmem0
 have hfr := hNx.fresh
 have hk12 : 1 ≤ x.Kind ∧ x.Kind ≤ 11 := Ep hxv
 have hds2 : ∀ f ∈ ds ++ [x], (A6 f, f) ∈ M := fun f hf => (List.mem_append.1 hf).elim (hds f) (fun h => by cases List.mem_singleton.1 h; exact hmem)
 have hdn2 : ((ds ++ [x]).map A6).Nodup := Ro hdn hfr
 obtain ⟨j, hj⟩ : ∃ j, j = (x.Kind - 1).toNat := ⟨_, rfl⟩
 have hj11 : j < 11 := by omega
 have hkj : x.Kind = ((j + 1 : Nat) : Int) := by omega
 have hdl := Rp hds hdn
 have hdl2 := Lf hds hdn hmem hfr
 refine LW.pp (.extract (.t rfl) rfl) (LW.S ?_)
 refine CW.cond_true (.t rfl) ?_
 refine CW.skip (KW.then (CW.block (CW.S ?_)))
 refine Ah (Ms.REv.entry (.t rfl) hNx.entry) rfl ?_
 rintro _ _ ⟨rfl, rfl⟩
 refine LW.pp (.extract (.t rfl) rfl) ?_
 refine Ah (.A7 zeroValue36) rfl ?_
 rintro _ w27 ⟨B14, rfl, MB14⟩
 refine LW.E (.A3 sizeOf36 rfl (.t rfl) (.t rfl) eQ MB14.blk rfl) ?_
 intro w28 LB14
 have NB14 := MB14.set LB14
 clear LB14 MB14
 have eB14 := NB14.at_
 have zB14 := NB14.size
 replace hS := hS.C7 NB14
 change Wx.Sep _ _ _ [_, _, _, _, _, _] at hS
 refine LW.S ?_
 cases hq16 : x.Gone with
 | true =>
  have hgn := hq16
  refine CW.region ?_
  refine LW.pp (.fA 4 underlying36 rfl sizeOf4 rfl) ?_
  refine LW.pp (.ld isAgg4 rfl ((hS.blk 5 rfl).Ak rfl)) ?_
  refine LW.pp (.fa (PEv.not (.t rfl)) (by rw [hq16]; rfl)) ?_
  refine LW.T ?_
  refine CW.cond_false (.t rfl) ?_
  refine CW.skip (KW.inBlock (KW.round ?_))
  first | exact ⟨(ds ++ [x], vs.set j v74), ⟨hds2, hdn2, by show (vs.set j v74).length = 11; rw [List.length_set]; exact hvl, by first | (rw [Qk hgn hj11 hkj, ← Hy, List.map_append]; exact hS.take 5) | (rw [Ny hgn, List.map_append]; exact hS.take 5)⟩, ⟨rfl, rfl, rfl, rfl, trivial⟩, by show M.length - (ds ++ [x]).length < M.length - ds.length; have := Lf hds hdn hmem hfr; simp; omega⟩ | exact ⟨(ds ++ [x], vs), ⟨hds2, hdn2, hvl, by first | (rw [Qk hgn hj11 hkj, ← Hy, List.map_append]; exact hS.take 5) | (rw [Ny hgn, List.map_append]; exact hS.take 5)⟩, ⟨rfl, rfl, rfl, rfl, trivial⟩, by show M.length - (ds ++ [x]).length < M.length - ds.length; have := Lf hds hdn hmem hfr; simp; omega⟩
 | false =>
  have hgn := hq16
  refine CW.region ?_
  refine LW.pp (.fA 4 underlying36 rfl sizeOf4 rfl) ?_
  refine LW.pp (.ld isAgg4 rfl ((hS.blk 5 rfl).Ak rfl)) ?_
  refine LW.pp (.tr (PEv.not (.t rfl)) (by rw [hq16]; rfl)) ?_
  refine LW.T ?_
  refine CW.cond_true (.t rfl) ?_
  refine CW.S (LW.M rfl ?_)
  refine LW.pp (.fA 0 underlying36 rfl sizeOf3 rfl) ?_
  refine LW.pp (.ld isAgg3 rfl ((hS.blk 5 rfl).Ak rfl)) ?_
  refine LW.pp (.val (v' := .agg #[.func (.func (Mz x.Kind)) #[] #[], .func (.func (Nx x.Kind)) #[] #[]]) (PEv.C1 (ok := false) underlying70 underlying3 (.t rfl) (.t rfl) (hS.get 3 rfl) (Lc.2 ⟨hk12.1, (show x.Kind ≤ ((11 : Nat) : Int) from by omega), rfl⟩)) rfl) ?_
  refine LW.pp (.gX (off := 0) underlying76 rfl rfl isAgg73 (.t rfl) rfl) ?_
  refine LW.K (Cz (.t rfl) (.cons (.t rfl) .nil) (bQ x.Kind hk12.1 hk12.2)) rfl (Wz x.Kind hk12.1 hk12.2 B11 _) ?_
  rintro _ w29 ⟨rfl, uw29⟩
  have zw29 := uw29.size
  replace hS := hS.up uw29
  rw [← hj]
  refine LW.A rfl (LW.T ?_)
  obtain ⟨v, hvj⟩ := Ac (xs := vs) (i := j) oQ
  refine Q1 6 (fun v w'' => Wx.Sep no w0 w'' [Cq B4 #[.slice none 0 0, .slice none 0 0, .slice none 0 0, .slice none 0 0, .slice none 0 0, .slice none 0 0, .slice none 0 0, .slice none 0 0, .slice none 0 0, .slice none 0 0, .slice none 0 0] 38, Ms.Fp B18 r54 (Oz M) (ds.map A6 ++ [A6 x]), Cq B11 vs.toArray 38, Cc bk (P4 Vt 11), D8 ((lists 36 19 Fact.cells vs (W6 [] ds)).set j (Ai 36 19 Fact.cells v (Dp [] ds j ++ [x]))), Cq B14 x.cells 36]) kQ kQ kQ kQ kQ kQ rfl rfl rfl rfl rfl ?_
  refine HW.pp (.move (.t rfl)) ?_
  refine HW.pp (.move (.t rfl)) ?_
  refine HW.pp (.nilCheck (.t rfl)) ?_
  refine HW.pp (.ld isAgg23 rfl ((hS.blk 2 rfl).cell (by simpa using hvj))) ?_
  refine HW.pp (.la isAgg36 sizeOf36 rfl ((hS.blk 5 rfl).agg)) ?_
  refine HW.r (p := fun v w => Sl w v 19 (Fact.cells) [x]) (fun _ _ _ h u => Sl.up h u) rfl (fun w hu a ha => let ⟨v, w', h1, h2⟩ := REv.buildSlice (xs := [x]) (enc := Fact.cells) (mk := fun f : Fact => .agg f.cells) underlying23 sizeOf36 zeroValue36 rfl (Nat.le_of_ble_eq_true rfl) (fun _ => rfl) (fun _ => rfl) (.cons (.t rfl) .nil) rfl a ha; ⟨v, w', h1, h2.q⟩) rfl ?_
  refine HW.nil ⟨fun a w' hu ha => ?_, ?_⟩
  ·exact (REv.open (d := 73) (p := fun v w => Sl w v 19 Fact.cells [x]) rfl fun vv hv => (REv.C3 (bytes := 160) (i := Tryz.t36) underlying23 kQ rfl rfl rfl rfl cQ (fun _ => rfl) Fact.one (.t rfl) (.t rfl) (Jk ((hS.up hu).get 4 rfl) hvj (F2 _ _ hj11)) hv (by have := U3 [] ds j; simp only [List.length_cons, List.length_nil, maxLen]; omega) (by have := U3 [] ds j; simp only [List.length_cons, List.length_nil]; omega)).mono fun v' w'' h => (hS.up hu).Dj 4 rfl (Ld ((hS.up hu).get 4 rfl) (L6 hvj (F2 _ _ hj11)) h)).y ha
  intro v74 w30 hS
  have hv1 : v74.oneCell' = true := by
   have h := hS.get 4 rfl
   rw [Hy] at h
   exact Tr h (by rw [List.length_set, List.length_set, hvl, Hq]) v74 (List.mem_of_getElem? (i := j) (by rw [List.getElem?_set_self (by omega)]))
  refine LW.pp (.nilCheck (.t rfl)) ?_
  refine LW.E (.store sizeOf23 (.t rfl) (.t rfl) hv1 (hS.blk 2 rfl) (by simp; omega)) ?_
  intro w31 Nw31
  have zw31 := Nw31.size
  replace hS := hS.Gf 2 rfl (by rw [mQ] at Nw31; exact Nw31)
  change Wx.Sep _ _ _ [_, _, _, _, _, _] at hS
  refine LW.nil (KW.inBlock (KW.round ?_))
  first | exact ⟨(ds ++ [x], vs.set j v74), ⟨hds2, hdn2, by show (vs.set j v74).length = 11; rw [List.length_set]; exact hvl, by first | (rw [Qk hgn hj11 hkj, ← Hy, List.map_append]; exact hS.take 5) | (rw [Ny hgn, List.map_append]; exact hS.take 5)⟩, ⟨rfl, rfl, rfl, rfl, trivial⟩, by show M.length - (ds ++ [x]).length < M.length - ds.length; have := Lf hds hdn hmem hfr; simp; omega⟩ | exact ⟨(ds ++ [x], vs), ⟨hds2, hdn2, hvl, by first | (rw [Qk hgn hj11 hkj, ← Hy, List.map_append]; exact hS.take 5) | (rw [Ny hgn, List.map_append]; exact hS.take 5)⟩, ⟨rfl, rfl, rfl, rfl, trivial⟩, by show M.length - (ds ++ [x]).length < M.length - ds.length; have := Lf hds hdn hmem hfr; simp; omega⟩
end Go.Proofs.YtmimclgihlhaeaaGreat
namespace Go.Wx
theorem Rq {α : Type} {key : α → K2} {l s : List α} (h : l.Perm s) (hd : ∀ x ∈ l, ∀ y ∈ l, key x = key y → x = y) : Iv key l = Iv key s := by
 have hs : sameF key l s := fun k => by
   have hp := h.filter (fun x => key x == k)
   cases e : l.filter (fun x => key x == k) with
   | nil => rw [e] at hp; exact hp.symm.eq_nil
   | cons x r =>
     have all : ∀ y ∈ l.filter (fun x => key x == k), y = x := fun y hy => by
       have hx : x ∈ l.filter (fun x => key x == k) := by rw [e]; exact List.mem_cons_self
       rw [List.mem_filter] at hx hy
       exact hd _ hy.1 _ hx.1 ((eq_of_beq hy.2).trans (eq_of_beq hx.2).symm)
     have h1 : l.filter (fun x => key x == k) = List.replicate (l.filter (fun x => key x == k)).length x := List.eq_replicate_iff.2 ⟨rfl, all⟩
     have h2 : s.filter (fun x => key x == k) = List.replicate (l.filter (fun x => key x == k)).length x := List.eq_replicate_iff.2 ⟨hp.length_eq.symm, fun y hy => all y (hp.symm.subset hy)⟩
     rw [h2, ← h1, e]
 have : StS key l (Iv key s) := ⟨(Fo s).ord, hs.trans (Fo s).same⟩
 exact this.eq.symm
theorem Rr {k : Int} {f g : Fact} (hf : A5 f = true) (hg : A5 g = true) (hkf : f.Kind = k) (hkg : g.Kind = k) (h : Kt k f = Kt k g) : A6 f = A6 g := by
 have hk := Ep hf
 rw [hkf] at hk
 unfold A6 Re
 rw [if_pos hf, if_pos hg, hkf, hkg]
 have hc : k = 1 ∨ k = 2 ∨ k = 3 ∨ k = 4 ∨ k = 5 ∨ k = 6 ∨ k = 7 ∨ k = 8 ∨ k = 9 ∨ k = 10 ∨ k = 11 := by omega
 rcases hc with rfl | rfl | rfl | rfl | rfl | rfl | rfl | rfl | rfl | rfl | rfl
 · replace h : (f.ID, (0 : Int)) = (g.ID, (0 : Int)) := h
   show Bu [1, f.ID] = Bu [1, g.ID]
   rw [(Prod.mk.inj h).1]
 · replace h : (f.ID, (0 : Int)) = (g.ID, (0 : Int)) := h
   show Bu [2, f.ID] = Bu [2, g.ID]
   rw [(Prod.mk.inj h).1]
 · replace h : (f.ID, (0 : Int)) = (g.ID, (0 : Int)) := h
   show Bu [3, f.ID] = Bu [3, g.ID]
   rw [(Prod.mk.inj h).1]
 · replace h : (f.Wafer, f.Time) = (g.Wafer, g.Time) := h
   show Bu [4, f.Wafer, f.Time] = Bu [4, g.Wafer, g.Time]
   rw [(Prod.mk.inj h).1, (Prod.mk.inj h).2]
 · replace h : (f.Product, (0 : Int)) = (g.Product, (0 : Int)) := h
   show Bu [5, f.Product] = Bu [5, g.Product]
   rw [(Prod.mk.inj h).1]
 · replace h : (f.ID, (0 : Int)) = (g.ID, (0 : Int)) := h
   show Bu [6, f.ID] = Bu [6, g.ID]
   rw [(Prod.mk.inj h).1]
 · replace h : (f.ID, (0 : Int)) = (g.ID, (0 : Int)) := h
   show Bu [7, f.ID] = Bu [7, g.ID]
   rw [(Prod.mk.inj h).1]
 · replace h : (f.Other, f.Parties) = (g.Other, g.Parties) := h
   show Bu [8, f.Other, f.Parties] = Bu [8, g.Other, g.Parties]
   rw [(Prod.mk.inj h).1, (Prod.mk.inj h).2]
 · replace h : (f.ID, (0 : Int)) = (g.ID, (0 : Int)) := h
   show Bu [9, f.ID] = Bu [9, g.ID]
   rw [(Prod.mk.inj h).1]
 · replace h : (f.Recipe, f.Time) = (g.Recipe, g.Time) := h
   show Bu [10, f.Recipe, f.Time] = Bu [10, g.Recipe, g.Time]
   rw [(Prod.mk.inj h).1, (Prod.mk.inj h).2]
 replace h : (f.ID, (0 : Int)) = (g.ID, (0 : Int)) := h
 show Bu [11, f.ID] = Bu [11, g.ID]
 rw [(Prod.mk.inj h).1]
theorem Tv (m : E3) (k : List UInt8) (f : Fact) : (Le m k f).map (·.1) = if k ∈ m.map (·.1) then m.map (·.1) else m.map (·.1) ++ [k] := by
 unfold Le
 split
 · rw [List.map_map]
   apply List.map_congr_left
   intro p _
   simp only [Function.comp]
   split
   · rename_i e; exact e.symm
   rfl
 simp
theorem Rs {m : E3} (h : (m.map (·.1)).Nodup) (k : List UInt8) (f : Fact) : ((Le m k f).map (·.1)).Nodup := by
 rw [Tv]
 split
 · exact h
 rename_i hn
 rw [List.nodup_append]
 exact ⟨h, by simp, fun a ha c hc => by cases List.mem_singleton.1 hc; exact fun e => hn (e ▸ ha)⟩
theorem Rt {m : E3} (h : (m.map (·.1)).Nodup) (day : Int) (f : Fact) : ((Cp day m f).map (·.1)).Nodup := by
 unfold Cp
 split
 · exact h
 split
 · exact Rs h _ _
 split
 · exact Rs h _ _
 exact h
theorem Kc (l : List Fact) (day : Int) : ((E6 l day).map (·.1)).Nodup := by
 have : ∀ (l : List Fact) (m : E3), (m.map (·.1)).Nodup → ((l.foldl (Cp day) m).map (·.1)).Nodup := by
   intro l
   induction l with
   | nil => exact fun m h => h
   | cons x l ih => exact fun m h => ih _ (Rt h day x)
 exact this l [] List.nodup_nil
theorem Tw {m : E3} (h : (m.map (·.1)).Nodup) {k : List UInt8} {f g : Fact} (hf : (k, f) ∈ m) (hg : (k, g) ∈ m) : f = g := by
 induction m with
 | nil => cases hf
 | cons p m ih =>
   rw [List.map_cons, List.nodup_cons] at h
   rcases List.mem_cons.1 hf with e | hf' <;> rcases List.mem_cons.1 hg with e' | hg'
   · rw [← e'] at e; cases e; rfl
   · exact absurd (List.mem_map.2 ⟨_, hg', by rw [← e]⟩) h.1
   · exact absurd (List.mem_map.2 ⟨_, hf', by rw [← e']⟩) h.1
   exact ih h.2 hf' hg'
def Gk (m : E3) : List Fact := m.map (·.2)
theorem Ii {m : E3} (h : MOk m) {f : Fact} : f ∈ Gk m ↔ (A6 f, f) ∈ m := by
 constructor
 · intro hf
   obtain ⟨⟨k, g⟩, hp, e⟩ := List.mem_map.1 hf
   have e : g = f := e
   subst e
   have := (h _ hp).1
   have this : k = A6 g := this
   rw [← this]; exact hp
 exact fun hf => List.mem_map.2 ⟨_, hf, rfl⟩
theorem Pr {m : E3} (h : MOk m) : (Gk m).map A6 = m.map (·.1) := by
 unfold Gk
 rw [List.map_map]
 apply List.map_congr_left
 intro p hp
 exact (h p hp).1.symm
theorem Hr {α β : Type} {f : α → β} : ∀ {l : List α}, (l.map f).Nodup → l.Nodup
 | [], _ => List.nodup_nil
 | x :: l, h => by
   rw [List.map_cons, List.nodup_cons] at h
   exact List.nodup_cons.2 ⟨fun hm => h.1 (List.mem_map.2 ⟨x, hm, rfl⟩), Hr h.2⟩
theorem G9 {α : Type} {l s : List α} (hl : l.Nodup) (hs : s.Nodup) (h : ∀ x, x ∈ l ↔ x ∈ s) : l.Perm s := (List.perm_ext_iff_of_nodup hl hs).2 h
theorem eM {ds : List Fact} {m : E3} (hm : MOk m) (hn : (m.map (·.1)).Nodup) (h : ∀ f ∈ ds, (A6 f, f) ∈ m) (hp : (ds.map A6).Perm (m.map (·.1))) : ds.Perm (Gk m) := by
 refine G9 (Hr (f := A6) (hp.nodup_iff.2 hn)) (Hr (f := A6) (by rw [Pr hm]; exact hn)) fun x => ?_
 rw [Ii hm]
 refine ⟨h x, fun hx => ?_⟩
 obtain ⟨y, hy, e⟩ := List.mem_map.1 (hp.symm.subset (List.mem_map.2 ⟨_, hx, rfl⟩))
 have e : A6 y = A6 x := e
 have := h y hy
 rw [e] at this
 rw [Tw hn hx this]; exact hy
theorem Zi {m : E3} (hm : MOk m) (hn : (m.map (·.1)).Nodup) {f g : Fact} (hf : f ∈ Gk m) (hg : g ∈ Gk m) (e : A6 f = A6 g) : f = g := by
 rw [Ii hm] at hf hg
 rw [e] at hf
 exact Tw hn hf hg
theorem Cv {m : E3} (hm : MOk m) (hn : (m.map (·.1)).Nodup) {ds : List Fact} (h : ds.Perm (Gk m)) (dn : List Int) (j : Nat) (hj : ((j + 1 : Nat) : Int) ∈ dn) : Dp dn ds j = Dp dn (Gk m) j := by
 unfold Dp
 rw [if_pos hj, if_pos hj]
 refine Rq (h.filter _) fun x hx y hy e => ?_
 rw [List.mem_filter] at hx hy
 have hxm := h.subset hx.1
 have hym := h.subset hy.1
 have vx := (hm _ ((Ii hm).1 hxm)).2
 have vy := (hm _ ((Ii hm).1 hym)).2
 simp only [Bool.and_eq_true, decide_eq_true_eq] at hx hy
 exact Zi hm hn hxm hym (Rr vx vy hx.2.2 hy.2.2 e)
def F8 (l : List Fact) (day : Int) : Base := Tu (Gk (E6 l day))
theorem pZ {ds : List Fact} {l : List Fact} {day : Int} (h : ∀ f ∈ ds, (A6 f, f) ∈ E6 l day) (hp : (ds.map A6).Perm ((E6 l day).map (·.1))) : Tu ds = F8 l day := by
 have hm := (U2 day l).1
 have hn := Kc l day
 have h1 := eM hm hn h hp
 unfold F8 Tu
 rw [Cv hm hn h1 [1] 0 cQ, Cv hm hn h1 [2] 1 cQ, Cv hm hn h1 [3] 2 cQ, Cv hm hn h1 [4] 3 cQ, Cv hm hn h1 [5] 4 cQ, Cv hm hn h1 [6] 5 cQ, Cv hm hn h1 [7] 6 cQ, Cv hm hn h1 [8] 7 cQ, Cv hm hn h1 [9] 8 cQ, Cv hm hn h1 [10] 9 cQ, Cv hm hn h1 [11] 10 (by decide)]
end Go.Wx
namespace Go.Proofs.YtmimclgihlhaeaaGreat
open Go.Proofs.Tryz
open Go.Wx Go.RowKit
theorem Zj (ad : Option Addr) (cp : Nat) (l : List Fact) (day : Int) (w : World) (hE0 : Els w ad 19 Fact.cells l) (hl : l.length ≤ 100000) : Ret Tryz.prog 13 #[.slice ad l.length cp, vi day] w fun r w' => ∃ bc, r = .agg bc ∧ BaseC w' bc (F8 l day) ∧ Up w w' :=
 (mS ad cp l day w hE0 hl).mono fun _ _ ⟨bc, _, e, hB, h1, h2, _, _, u⟩ => ⟨bc, e, pZ h1 h2 ▸ hB, u⟩
end Go.Proofs.YtmimclgihlhaeaaGreat
end
