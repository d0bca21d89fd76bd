import Derived.Test.YtmimclgihlhaeaaGreatKR49
section
namespace Go.Wx
open Go.RowKit
def aIMap (b : Nat) (kv : List (Int × Value)) : Asr := ⟨(· = b), fun w => IMap w b kv, fun _ _ h k _ => by
 have := h.lt
 obtain ⟨es, clock, h1, h2⟩ := h
 exact ⟨es, clock, (k b rfl this).trans h1, h2⟩, fun _ h _ e => by rw [e]; exact h.lt⟩
def aIRng (b r : Nat) (kv : List (Int × Value)) (done : List Int) : Asr := ⟨fun i => i = b ∨ i = r, fun w => IRng w b r kv done, fun _ _ h k _ => by
 obtain ⟨es, clock, since, seen, c0, h1, h2, h3, h4, h5⟩ := h
 exact ⟨es, clock, since, seen, c0, (k b (.inl rfl) (lt_of_block h1)).trans h1, h2, h3, (k r (.inr rfl) (lt_of_block h4)).trans h4, h5⟩, fun _ h i e => by
 obtain ⟨es, clock, since, seen, c0, h1, h2, h3, h4, h5⟩ := h
 rcases e with rfl | rfl
 · exact lt_of_block h1
 exact lt_of_block h4⟩
theorem stp_range {b r : Nat} {kv : List (Int × Value)} {w w' : World} (h : IRng w' b r kv []) (u : Up w w') (hr : r = w.heap.size) : Stp (aIMap b kv) (aIRng b r kv []) w w' := ⟨u.fr _, h, fun i hi => hi.elim (fun e => .inl e) (fun e => .inr oQ)⟩
theorem stp_next {P : Program} {b r : Nat} {kv : List (Int × Value)} {done : List Int} {k : Int} {u : Value} {w w' : World} (h : NextTo P w w' b r kv done k u) : Stp (aIRng b r kv done) (aIRng b r kv (done ++ [k])) w w' := ⟨h.sto.fr.mono (fun i (e : i = r) => .inr e), h.rng, fun _ h => .inl h⟩
namespace Ms
def aIMap (b : Nat) (kv : List (List UInt8 × Value)) : Asr := ⟨(· = b), fun w => Ms.IMap w b kv, fun _ _ h k _ => by
 have := h.lt
 obtain ⟨es, clock, h1, h2⟩ := h
 exact ⟨es, clock, (k b rfl this).trans h1, h2⟩, fun _ h _ e => by rw [e]; exact h.lt⟩
def aIRng (b r : Nat) (kv : List (List UInt8 × Value)) (done : List (List UInt8)) : Asr := ⟨fun i => i = b ∨ i = r, fun w => Ms.IRng w b r kv done, fun _ _ h k _ => by
 obtain ⟨es, clock, since, seen, c0, h1, h2, h3, h4, h5⟩ := h
 exact ⟨es, clock, since, seen, c0, (k b (.inl rfl) (lt_of_block h1)).trans h1, h2, h3, (k r (.inr rfl) (lt_of_block h4)).trans h4, h5⟩, fun _ h i e => by
 obtain ⟨es, clock, since, seen, c0, h1, h2, h3, h4, h5⟩ := h
 rcases e with rfl | rfl
 · exact lt_of_block h1
 exact lt_of_block h4⟩
theorem stp_set {b : Nat} {kv kv' : List (List UInt8 × Value)} {w w' : World} (h : Ms.IMap w' b kv') (k : Sto b w w') : Stp (aIMap b kv) (aIMap b kv') w w' := ⟨k.fr, h, fun _ h => .inl h⟩
theorem stp_range {b r : Nat} {kv : List (List UInt8 × Value)} {w w' : World} (h : Ms.IRng w' b r kv []) (u : Up w w') (hr : r = w.heap.size) : Stp (aIMap b kv) (aIRng b r kv []) w w' := ⟨u.fr _, h, fun i hi => hi.elim (fun e => .inl e) (fun e => .inr oQ)⟩
theorem stp_next {P : Program} {b r : Nat} {kv : List (List UInt8 × Value)} {done : List (List UInt8)} {k : List UInt8} {u : Value} {w w' : World} (h : Ms.NextTo P w w' b r kv done k u) : Stp (aIRng b r kv done) (aIRng b r kv (done ++ [k])) w w' := ⟨h.sto.fr.mono (fun i (e : i = r) => .inr e), h.rng, fun _ h => .inl h⟩
end Ms
theorem aAnd_stp {As : List Asr} {A A' : Asr} {w w' : World} {j : Nat} (h : (aAnd As).holds w) (hj : As[j]? = some A) (s : Stp A A' w w') : Stp (aAnd As) (aAnd (As.set j A')) w w' := by
 have := (aAnd_open h).stp j hj s
 rw [← List.append_nil (As.set j A')] at this
 exact aAnd_close this
theorem zip_set' {α β : Type} (a : α) (b : β) : ∀ (l : List α) (r : List β) (j : Nat), (l.set j a).zip (r.set j b) = (l.zip r).set j (a, b)
 | [], r, j => by simp
 | x :: l, [], j => by cases j <;> simp
 | x :: l, y :: r, 0 => rfl
 | x :: l, y :: r, j + 1 => by
   rw [List.set_cons_succ, List.set_cons_succ, List.zip_cons_cons, List.zip_cons_cons, List.set_cons_succ, zip_set' a b l r j]
def lists {α : Type} (e k : Nat) (enc : α → Array Value) (vs : List Value) (xss : List (List α)) : List Asr := (vs.zip xss).map fun p => aOwn e k enc p.1 p.2
theorem lists_get {α : Type} {e k : Nat} {enc : α → Array Value} {vs : List Value} {xss : List (List α)} {j : Nat} {v : Value} {xs : List α} (hv : vs[j]? = some v) (hx : xss[j]? = some xs) : (lists e k enc vs xss)[j]? = some (aOwn e k enc v xs) := by
 unfold lists
 rw [List.getElem?_map]
 have : (vs.zip xss)[j]? = some (v, xs) := by rw [List.getElem?_zip_eq_some]; exact ⟨hv, hx⟩
 rw [this]; rfl
theorem lists_set {α : Type} {e k : Nat} {enc : α → Array Value} {vs : List Value} {xss : List (List α)} {j : Nat} {v : Value} {xs : List α} : (lists e k enc vs xss).set j (aOwn e k enc v xs) = lists e k enc (vs.set j v) (xss.set j xs) := by
 unfold lists
 have : (vs.set j v).zip (xss.set j xs) = (vs.zip xss).set j (v, xs) := zip_set' v xs vs xss j
 rw [this, List.map_set]
theorem lists_own {α : Type} {e k : Nat} {enc : α → Array Value} {vs : List Value} {xss : List (List α)} {w : World} {j : Nat} {v : Value} {xs : List α} (h : (aAnd (lists e k enc vs xss)).holds w) (hv : vs[j]? = some v) (hx : xss[j]? = some xs) : OwnS w 0 e k enc v xs := h.1 _ (List.mem_of_getElem? (lists_get hv hx))
theorem lists_one {α : Type} {e k : Nat} {enc : α → Array Value} {vs : List Value} {xss : List (List α)} {w : World} (h : (aAnd (lists e k enc vs xss)).holds w) (hl : vs.length = xss.length) : ∀ v ∈ vs, v.oneCell' = true := fun v hv => by
 obtain ⟨j, hj⟩ := List.mem_iff_getElem?.1 hv
 have hlt := (List.getElem?_eq_some_iff.1 hj).1
 obtain ⟨xs, hx⟩ := getElem?_of_lt (xs := xss) (i := j) oQ
 exact (lists_own h hj hx).one
theorem lists_nil {α : Type} (e k : Nat) (enc : α → Array Value) (n : Nat) (w : World) : (aAnd (lists e k enc (List.replicate n (.slice none 0 0)) (List.replicate n ([] : List α)))).holds w ∧ ∀ i, ¬ (aAnd (lists e k enc (List.replicate n (.slice none 0 0)) (List.replicate n ([] : List α)))).foot i := by
 have key : ∀ A ∈ lists e k enc (List.replicate n (.slice none 0 0)) (List.replicate n ([] : List α)), A = aOwn e k enc (.slice none 0 0) [] := fun A hA => by
   unfold lists at hA
   obtain ⟨⟨v, xs⟩, hp, rfl⟩ := List.mem_map.1 hA
   have := List.of_mem_zip hp
   rw [List.eq_of_mem_replicate this.1, List.eq_of_mem_replicate this.2]
 refine ⟨⟨fun A hA => by rw [key A hA]; exact OwnS.nil _ _ _ _ _, List.pairwise_iff_getElem.2 fun i j hi hj _ x hx => by
   rw [key _ (List.getElem_mem hi)] at hx; cases hx⟩, fun i ⟨A, hA, hi⟩ => by rw [key A hA] at hi; cases hi⟩
end Go.Wx
end
section
namespace Go.Wx
def ordK (k : Int) (f : Fact) : K2 := match k with
 | 4 => (f.Wafer, f.Time)
 | 5 => (f.Product, 0)
 | 8 => (f.Other, f.Parties)
 | 10 => (f.Recipe, f.Time)
 | _ => (f.ID, 0)
end Go.Wx
namespace Go.Proofs.YtmimclgihlhaeaaGreat
open Go.Proofs.Tryz
open Go.Wx Go.RowKit
def listFn (k : Int) : Nat := match k with
 | 1 => 69
 | 2 => 71
 | 3 => 72
 | 4 => 73
 | 5 => 75
 | 6 => 77
 | 7 => 78
 | 8 => 79
 | 9 => 81
 | 10 => 82
 | 11 => 84
 | _ => 0
def ordFn (k : Int) : Nat := match k with
 | 1 => 70
 | 2 => 70
 | 3 => 70
 | 4 => 74
 | 5 => 76
 | 6 => 70
 | 7 => 70
 | 8 => 80
 | 9 => 70
 | 10 => 83
 | 11 => 70
 | _ => 0
def KdV (k : Int) : Go.Value := .agg #[.func (.func (listFn k)) #[] #[], .func (.func (ordFn k)) #[] #[]]
theorem list_1 (B : Nat) (w : World) : Ret Tryz.prog 69 #[.pointer (some ⟨B, 0, none⟩)] w fun r w' => r = .pointer (some ⟨B, 0, none⟩) ∧ Up w w' := by
 have hW := Up.refl w
 refine cS (n := 6) (m := 9) func69 rfl rfl rfl ?_
 refine CW.S (LW.C (LW.S (CW.region (LW.M rfl ?_))))
 refine LW.pp (.nilCheck (.t rfl)) ?_
 refine LW.pp (.fA 0 underlying38 rfl sizeOf23 rfl) ?_
 refine LW.A rfl (LW.T (CW.ret ?_))
 refine KW.ret1 rfl rfl ⟨_, rfl, ?_⟩
 exact ⟨rfl, hW⟩
theorem list_2 (B : Nat) (w : World) : Ret Tryz.prog 71 #[.pointer (some ⟨B, 0, none⟩)] w fun r w' => r = .pointer (some ⟨B, 1, none⟩) ∧ Up w w' := by
 have hW := Up.refl w
 refine cS (n := 6) (m := 9) func71 rfl rfl rfl ?_
 refine CW.S (LW.C (LW.S (CW.region (LW.M rfl ?_))))
 refine LW.pp (.nilCheck (.t rfl)) ?_
 refine LW.pp (.fA 1 underlying38 rfl sizeOf23 rfl) ?_
 refine LW.A rfl (LW.T (CW.ret ?_))
 refine KW.ret1 rfl rfl ⟨_, rfl, ?_⟩
 exact ⟨rfl, hW⟩
theorem list_3 (B : Nat) (w : World) : Ret Tryz.prog 72 #[.pointer (some ⟨B, 0, none⟩)] w fun r w' => r = .pointer (some ⟨B, 2, none⟩) ∧ Up w w' := by
 have hW := Up.refl w
 refine cS (n := 6) (m := 9) func72 rfl rfl rfl ?_
 refine CW.S (LW.C (LW.S (CW.region (LW.M rfl ?_))))
 refine LW.pp (.nilCheck (.t rfl)) ?_
 refine LW.pp (.fA 2 underlying38 rfl sizeOf23 rfl) ?_
 refine LW.A rfl (LW.T (CW.ret ?_))
 refine KW.ret1 rfl rfl ⟨_, rfl, ?_⟩
 exact ⟨rfl, hW⟩
theorem list_4 (B : Nat) (w : World) : Ret Tryz.prog 73 #[.pointer (some ⟨B, 0, none⟩)] w fun r w' => r = .pointer (some ⟨B, 3, none⟩) ∧ Up w w' := by
 have hW := Up.refl w
 refine cS (n := 6) (m := 9) func73 rfl rfl rfl ?_
 refine CW.S (LW.C (LW.S (CW.region (LW.M rfl ?_))))
 refine LW.pp (.nilCheck (.t rfl)) ?_
 refine LW.pp (.fA 3 underlying38 rfl sizeOf23 rfl) ?_
 refine LW.A rfl (LW.T (CW.ret ?_))
 refine KW.ret1 rfl rfl ⟨_, rfl, ?_⟩
 exact ⟨rfl, hW⟩
theorem list_5 (B : Nat) (w : World) : Ret Tryz.prog 75 #[.pointer (some ⟨B, 0, none⟩)] w fun r w' => r = .pointer (some ⟨B, 4, none⟩) ∧ Up w w' := by
 have hW := Up.refl w
 refine cS (n := 6) (m := 9) func75 rfl rfl rfl ?_
 refine CW.S (LW.C (LW.S (CW.region (LW.M rfl ?_))))
 refine LW.pp (.nilCheck (.t rfl)) ?_
 refine LW.pp (.fA 4 underlying38 rfl sizeOf23 rfl) ?_
 refine LW.A rfl (LW.T (CW.ret ?_))
 refine KW.ret1 rfl rfl ⟨_, rfl, ?_⟩
 exact ⟨rfl, hW⟩
theorem list_6 (B : Nat) (w : World) : Ret Tryz.prog 77 #[.pointer (some ⟨B, 0, none⟩)] w fun r w' => r = .pointer (some ⟨B, 5, none⟩) ∧ Up w w' := by
 have hW := Up.refl w
 refine cS (n := 6) (m := 9) func77 rfl rfl rfl ?_
 refine CW.S (LW.C (LW.S (CW.region (LW.M rfl ?_))))
 refine LW.pp (.nilCheck (.t rfl)) ?_
 refine LW.pp (.fA 5 underlying38 rfl sizeOf23 rfl) ?_
 refine LW.A rfl (LW.T (CW.ret ?_))
 refine KW.ret1 rfl rfl ⟨_, rfl, ?_⟩
 exact ⟨rfl, hW⟩
theorem list_7 (B : Nat) (w : World) : Ret Tryz.prog 78 #[.pointer (some ⟨B, 0, none⟩)] w fun r w' => r = .pointer (some ⟨B, 6, none⟩) ∧ Up w w' := by
 have hW := Up.refl w
 refine cS (n := 6) (m := 9) func78 rfl rfl rfl ?_
 refine CW.S (LW.C (LW.S (CW.region (LW.M rfl ?_))))
 refine LW.pp (.nilCheck (.t rfl)) ?_
 refine LW.pp (.fA 6 underlying38 rfl sizeOf23 rfl) ?_
 refine LW.A rfl (LW.T (CW.ret ?_))
 refine KW.ret1 rfl rfl ⟨_, rfl, ?_⟩
 exact ⟨rfl, hW⟩
theorem list_8 (B : Nat) (w : World) : Ret Tryz.prog 79 #[.pointer (some ⟨B, 0, none⟩)] w fun r w' => r = .pointer (some ⟨B, 7, none⟩) ∧ Up w w' := by
 have hW := Up.refl w
 refine cS (n := 6) (m := 9) func79 rfl rfl rfl ?_
 refine CW.S (LW.C (LW.S (CW.region (LW.M rfl ?_))))
 refine LW.pp (.nilCheck (.t rfl)) ?_
 refine LW.pp (.fA 7 underlying38 rfl sizeOf23 rfl) ?_
 refine LW.A rfl (LW.T (CW.ret ?_))
 refine KW.ret1 rfl rfl ⟨_, rfl, ?_⟩
 exact ⟨rfl, hW⟩
theorem list_9 (B : Nat) (w : World) : Ret Tryz.prog 81 #[.pointer (some ⟨B, 0, none⟩)] w fun r w' => r = .pointer (some ⟨B, 8, none⟩) ∧ Up w w' := by
 have hW := Up.refl w
 refine cS (n := 6) (m := 9) func81 rfl rfl rfl ?_
 refine CW.S (LW.C (LW.S (CW.region (LW.M rfl ?_))))
 refine LW.pp (.nilCheck (.t rfl)) ?_
 refine LW.pp (.fA 8 underlying38 rfl sizeOf23 rfl) ?_
 refine LW.A rfl (LW.T (CW.ret ?_))
 refine KW.ret1 rfl rfl ⟨_, rfl, ?_⟩
 exact ⟨rfl, hW⟩
theorem list_10 (B : Nat) (w : World) : Ret Tryz.prog 82 #[.pointer (some ⟨B, 0, none⟩)] w fun r w' => r = .pointer (some ⟨B, 9, none⟩) ∧ Up w w' := by
 have hW := Up.refl w
 refine cS (n := 6) (m := 9) func82 rfl rfl rfl ?_
 refine CW.S (LW.C (LW.S (CW.region (LW.M rfl ?_))))
 refine LW.pp (.nilCheck (.t rfl)) ?_
 refine LW.pp (.fA 9 underlying38 rfl sizeOf23 rfl) ?_
 refine LW.A rfl (LW.T (CW.ret ?_))
 refine KW.ret1 rfl rfl ⟨_, rfl, ?_⟩
 exact ⟨rfl, hW⟩
theorem list_11 (B : Nat) (w : World) : Ret Tryz.prog 84 #[.pointer (some ⟨B, 0, none⟩)] w fun r w' => r = .pointer (some ⟨B, 10, none⟩) ∧ Up w w' := by
 have hW := Up.refl w
 refine cS (n := 6) (m := 9) func84 rfl rfl rfl ?_
 refine CW.S (LW.C (LW.S (CW.region (LW.M rfl ?_))))
 refine LW.pp (.nilCheck (.t rfl)) ?_
 refine LW.pp (.fA 10 underlying38 rfl sizeOf23 rfl) ?_
 refine LW.A rfl (LW.T (CW.ret ?_))
 refine KW.ret1 rfl rfl ⟨_, rfl, ?_⟩
 exact ⟨rfl, hW⟩
theorem list_any (k : Int) (h1 : 1 ≤ k) (h2 : k ≤ 11) (B : Nat) (w : World) : Ret Tryz.prog (listFn k) #[.pointer (some ⟨B, 0, none⟩)] w fun r w' => r = .pointer (some ⟨B, (k - 1).toNat, none⟩) ∧ Up w w' := by
 obtain rfl | rfl | rfl | rfl | rfl | rfl | rfl | rfl | rfl | rfl | rfl : k = 1 ∨ k = 2 ∨ k = 3 ∨ k = 4 ∨ k = 5 ∨ k = 6 ∨ k = 7 ∨ k = 8 ∨ k = 9 ∨ k = 10 ∨ k = 11 := by omega
 · exact list_1 B w
 · exact list_2 B w
 · exact list_3 B w
 · exact list_4 B w
 · exact list_5 B w
 · exact list_6 B w
 · exact list_7 B w
 · exact list_8 B w
 · exact list_9 B w
 · exact list_10 B w
 exact list_11 B w
theorem list_en (k : Int) (h1 : 1 ≤ k) (h2 : k ≤ 11) : ∀ (args : Array Go.Value) (w : World), (callFunc (listFn k) args).run Tryz.prog w = .ok (.enter (listFn k) args) w := by
 obtain rfl | rfl | rfl | rfl | rfl | rfl | rfl | rfl | rfl | rfl | rfl : k = 1 ∨ k = 2 ∨ k = 3 ∨ k = 4 ∨ k = 5 ∨ k = 6 ∨ k = 7 ∨ k = 8 ∨ k = 9 ∨ k = 10 ∨ k = 11 := by omega
 · exact en69
 · exact en71
 · exact en72
 · exact en73
 · exact en75
 · exact en77
 · exact en78
 · exact en79
 · exact en81
 · exact en82
 exact en84
theorem ord_1 (x : Fact) (w : World) : Ret Tryz.prog 70 #[.agg x.cells] w fun r w' => r = .agg #[vi (ordK 1 x).1, vi (ordK 1 x).2] ∧ Up w w' := by
 have hW := Up.refl w
 refine cS (n := 6) (m := 9) func70 rfl rfl rfl ?_
 refine CW.S ?_
 refine LW.rr (.boxA (.t rfl)) rfl ?_
 rintro _ w1 ⟨B1, rfl, NB1⟩
 have eB1 := NB1.at_
 have zB1 := NB1.size
 replace hW := hW.up NB1.up
 have hB1 := NB1.blk
 refine LW.rr (.allocA zeroValue99) rfl ?_
 rintro _ w2 ⟨B2, rfl, NB2⟩
 have eB2 := NB2.at_
 have zB2 := NB2.size
 replace hW := hW.up NB2.up
 replace hB1 := hB1.up NB2.up
 have hB2 := NB2.blk
 refine LW.S (CW.region ?_)
 refine LW.pp (.fA 1 underlying36 rfl sizeOf3 rfl) ?_
 refine LW.pp (.ld isAgg3 rfl (hB1.celln rfl)) ?_
 refine LW.pp (.buildArr (cs := #[vi x.ID, vi 0]) underlying99 zeroValue99 sizeOf3 (.cons (.t rfl) (.cons (.const _) .nil)) rfl) ?_
 refine LW.E (.storeA sizeOf99 rfl (.t rfl) (.t rfl) eQ hB2 rfl) ?_
 intro w3 Nw3
 have zw3 := Nw3.size
 replace hW := hW.sto Nw3.sto oQ
 replace hB1 := hB1.sto Nw3.sto oQ
 replace hB2 := Nw3.blk
 refine LW.T (CW.ret ?_)
 refine KW.retA rfl rfl isAgg99 sizeOf99 rfl (hB2.agg) ⟨_, rfl, ?_⟩
 exact ⟨rfl, hW⟩
theorem ord_4 (x : Fact) (w : World) : Ret Tryz.prog 74 #[.agg x.cells] w fun r w' => r = .agg #[vi (ordK 4 x).1, vi (ordK 4 x).2] ∧ Up w w' := by
 have hW := Up.refl w
 refine cS (n := 8) (m := 9) func74 rfl rfl rfl ?_
 refine CW.S ?_
 refine LW.rr (.boxA (.t rfl)) rfl ?_
 rintro _ w1 ⟨B1, rfl, NB1⟩
 have eB1 := NB1.at_
 have zB1 := NB1.size
 replace hW := hW.up NB1.up
 have hB1 := NB1.blk
 refine LW.rr (.allocA zeroValue99) rfl ?_
 rintro _ w2 ⟨B2, rfl, NB2⟩
 have eB2 := NB2.at_
 have zB2 := NB2.size
 replace hW := hW.up NB2.up
 replace hB1 := hB1.up NB2.up
 have hB2 := NB2.blk
 refine LW.S (CW.region ?_)
 refine LW.pp (.fA 7 underlying36 rfl sizeOf3 rfl) ?_
 refine LW.pp (.ld isAgg3 rfl (hB1.celln rfl)) ?_
 refine LW.pp (.fA 5 underlying36 rfl sizeOf3 rfl) ?_
 refine LW.pp (.ld isAgg3 rfl (hB1.celln rfl)) ?_
 refine LW.pp (.buildArr (cs := #[vi x.Wafer, vi x.Time]) underlying99 zeroValue99 sizeOf3 (.cons (.t rfl) (.cons (.t rfl) .nil)) rfl) ?_
 refine LW.E (.storeA sizeOf99 rfl (.t rfl) (.t rfl) eQ hB2 rfl) ?_
 intro w3 Nw3
 have zw3 := Nw3.size
 replace hW := hW.sto Nw3.sto oQ
 replace hB1 := hB1.sto Nw3.sto oQ
 replace hB2 := Nw3.blk
 refine LW.T (CW.ret ?_)
 refine KW.retA rfl rfl isAgg99 sizeOf99 rfl (hB2.agg) ⟨_, rfl, ?_⟩
 exact ⟨rfl, hW⟩
theorem ord_5 (x : Fact) (w : World) : Ret Tryz.prog 76 #[.agg x.cells] w fun r w' => r = .agg #[vi (ordK 5 x).1, vi (ordK 5 x).2] ∧ Up w w' := by
 have hW := Up.refl w
 refine cS (n := 6) (m := 9) func76 rfl rfl rfl ?_
 refine CW.S ?_
 refine LW.rr (.boxA (.t rfl)) rfl ?_
 rintro _ w1 ⟨B1, rfl, NB1⟩
 have eB1 := NB1.at_
 have zB1 := NB1.size
 replace hW := hW.up NB1.up
 have hB1 := NB1.blk
 refine LW.rr (.allocA zeroValue99) rfl ?_
 rintro _ w2 ⟨B2, rfl, NB2⟩
 have eB2 := NB2.at_
 have zB2 := NB2.size
 replace hW := hW.up NB2.up
 replace hB1 := hB1.up NB2.up
 have hB2 := NB2.blk
 refine LW.S (CW.region ?_)
 refine LW.pp (.fA 10 underlying36 rfl sizeOf3 rfl) ?_
 refine LW.pp (.ld isAgg3 rfl (hB1.celln rfl)) ?_
 refine LW.pp (.buildArr (cs := #[vi x.Product, vi 0]) underlying99 zeroValue99 sizeOf3 (.cons (.t rfl) (.cons (.const _) .nil)) rfl) ?_
 refine LW.E (.storeA sizeOf99 rfl (.t rfl) (.t rfl) eQ hB2 rfl) ?_
 intro w3 Nw3
 have zw3 := Nw3.size
 replace hW := hW.sto Nw3.sto oQ
 replace hB1 := hB1.sto Nw3.sto oQ
 replace hB2 := Nw3.blk
 refine LW.T (CW.ret ?_)
 refine KW.retA rfl rfl isAgg99 sizeOf99 rfl (hB2.agg) ⟨_, rfl, ?_⟩
 exact ⟨rfl, hW⟩
theorem ord_8 (x : Fact) (w : World) : Ret Tryz.prog 80 #[.agg x.cells] w fun r w' => r = .agg #[vi (ordK 8 x).1, vi (ordK 8 x).2] ∧ Up w w' := by
 have hW := Up.refl w
 refine cS (n := 8) (m := 9) func80 rfl rfl rfl ?_
 refine CW.S ?_
 refine LW.rr (.boxA (.t rfl)) rfl ?_
 rintro _ w1 ⟨B1, rfl, NB1⟩
 have eB1 := NB1.at_
 have zB1 := NB1.size
 replace hW := hW.up NB1.up
 have hB1 := NB1.blk
 refine LW.rr (.allocA zeroValue99) rfl ?_
 rintro _ w2 ⟨B2, rfl, NB2⟩
 have eB2 := NB2.at_
 have zB2 := NB2.size
 replace hW := hW.up NB2.up
 replace hB1 := hB1.up NB2.up
 have hB2 := NB2.blk
 refine LW.S (CW.region ?_)
 refine LW.pp (.fA 8 underlying36 rfl sizeOf3 rfl) ?_
 refine LW.pp (.ld isAgg3 rfl (hB1.celln rfl)) ?_
 refine LW.pp (.fA 17 underlying36 rfl sizeOf3 rfl) ?_
 refine LW.pp (.ld isAgg3 rfl (hB1.celln rfl)) ?_
 refine LW.pp (.buildArr (cs := #[vi x.Other, vi x.Parties]) underlying99 zeroValue99 sizeOf3 (.cons (.t rfl) (.cons (.t rfl) .nil)) rfl) ?_
 refine LW.E (.storeA sizeOf99 rfl (.t rfl) (.t rfl) eQ hB2 rfl) ?_
 intro w3 Nw3
 have zw3 := Nw3.size
 replace hW := hW.sto Nw3.sto oQ
 replace hB1 := hB1.sto Nw3.sto oQ
 replace hB2 := Nw3.blk
 refine LW.T (CW.ret ?_)
 refine KW.retA rfl rfl isAgg99 sizeOf99 rfl (hB2.agg) ⟨_, rfl, ?_⟩
 exact ⟨rfl, hW⟩
theorem ord_10 (x : Fact) (w : World) : Ret Tryz.prog 83 #[.agg x.cells] w fun r w' => r = .agg #[vi (ordK 10 x).1, vi (ordK 10 x).2] ∧ Up w w' := by
 have hW := Up.refl w
 refine cS (n := 8) (m := 9) func83 rfl rfl rfl ?_
 refine CW.S ?_
 refine LW.rr (.boxA (.t rfl)) rfl ?_
 rintro _ w1 ⟨B1, rfl, NB1⟩
 have eB1 := NB1.at_
 have zB1 := NB1.size
 replace hW := hW.up NB1.up
 have hB1 := NB1.blk
 refine LW.rr (.allocA zeroValue99) rfl ?_
 rintro _ w2 ⟨B2, rfl, NB2⟩
 have eB2 := NB2.at_
 have zB2 := NB2.size
 replace hW := hW.up NB2.up
 replace hB1 := hB1.up NB2.up
 have hB2 := NB2.blk
 refine LW.S (CW.region ?_)
 refine LW.pp (.fA 14 underlying36 rfl sizeOf3 rfl) ?_
 refine LW.pp (.ld isAgg3 rfl (hB1.celln rfl)) ?_
 refine LW.pp (.fA 5 underlying36 rfl sizeOf3 rfl) ?_
 refine LW.pp (.ld isAgg3 rfl (hB1.celln rfl)) ?_
 refine LW.pp (.buildArr (cs := #[vi x.Recipe, vi x.Time]) underlying99 zeroValue99 sizeOf3 (.cons (.t rfl) (.cons (.t rfl) .nil)) rfl) ?_
 refine LW.E (.storeA sizeOf99 rfl (.t rfl) (.t rfl) eQ hB2 rfl) ?_
 intro w3 Nw3
 have zw3 := Nw3.size
 replace hW := hW.sto Nw3.sto oQ
 replace hB1 := hB1.sto Nw3.sto oQ
 replace hB2 := Nw3.blk
 refine LW.T (CW.ret ?_)
 refine KW.retA rfl rfl isAgg99 sizeOf99 rfl (hB2.agg) ⟨_, rfl, ?_⟩
 exact ⟨rfl, hW⟩
theorem ord_any (k : Int) (h1 : 1 ≤ k) (h2 : k ≤ 11) (x : Fact) (w : World) : Ret Tryz.prog (ordFn k) #[.agg x.cells] w fun r w' => r = .agg #[vi (ordK k x).1, vi (ordK k x).2] ∧ Up w w' := by
 obtain rfl | rfl | rfl | rfl | rfl | rfl | rfl | rfl | rfl | rfl | rfl : k = 1 ∨ k = 2 ∨ k = 3 ∨ k = 4 ∨ k = 5 ∨ k = 6 ∨ k = 7 ∨ k = 8 ∨ k = 9 ∨ k = 10 ∨ k = 11 := by omega
 · exact ord_1 x w
 · exact ord_1 x w
 · exact ord_1 x w
 · exact ord_4 x w
 · exact ord_5 x w
 · exact ord_1 x w
 · exact ord_1 x w
 · exact ord_8 x w
 · exact ord_1 x w
 · exact ord_10 x w
 exact ord_1 x w
theorem ord_en (k : Int) (h1 : 1 ≤ k) (h2 : k ≤ 11) : ∀ (args : Array Go.Value) (w : World), (callFunc (ordFn k) args).run Tryz.prog w = .ok (.enter (ordFn k) args) w := by
 obtain rfl | rfl | rfl | rfl | rfl | rfl | rfl | rfl | rfl | rfl | rfl : k = 1 ∨ k = 2 ∨ k = 3 ∨ k = 4 ∨ k = 5 ∨ k = 6 ∨ k = 7 ∨ k = 8 ∨ k = 9 ∨ k = 10 ∨ k = 11 := by omega
 · exact en70
 · exact en70
 · exact en70
 · exact en74
 · exact en76
 · exact en70
 · exact en70
 · exact en80
 · exact en70
 · exact en83
 exact en70
theorem kinds_any (w : World) : Ret Tryz.prog 33 #[] w fun r w' => ∃ b, r = .map (some b) ∧ IMap w' b (keyT KdV 11) ∧ w.heap.size ≤ b ∧ Up w w' := by
 have hW := Up.refl w
 refine cS (n := 14) (m := 9) func33 rfl rfl rfl ?_
 refine CW.S (LW.C (LW.S ?_))
 skip
 refine CW.region ?_
 refine LW.r REv.makeMap rfl rfl rfl rfl ?_
 rintro _ w1 ⟨B1, rfl, MB1, uB1, eB1, zB1⟩
 replace hW := hW.up uB1
 have hM1 := MB1
 refine LW.pp (.build (cs := #[.func (.func 69) #[] #[], .func (.func 70) #[] #[]]) underlying76 zeroValue76 Tryz.places76 (.cons (.func _) (.cons (.func _) .nil)) rfl) ?_
 replace hM1 : IMap _ B1 (keyT KdV 0) := hM1
 refine LW.E (.insert (k := ((0 + 1 : Nat) : Int)) (v := KdV ((0 + 1 : Nat) : Int)) underlying70 underlying3 (.t rfl) (.const _) (.t rfl) hM1) ?_
 rintro w2 ⟨Mw2, Kw2, zw2⟩
 rw [keyT_next] at Mw2
 replace hM1 := Mw2
 replace hW := hW.sto Kw2 oQ
 refine LW.pp (.build (cs := #[.func (.func 71) #[] #[], .func (.func 70) #[] #[]]) underlying76 zeroValue76 Tryz.places76 (.cons (.func _) (.cons (.func _) .nil)) rfl) ?_
 refine LW.E (.insert (k := ((1 + 1 : Nat) : Int)) (v := KdV ((1 + 1 : Nat) : Int)) underlying70 underlying3 (.t rfl) (.const _) (.t rfl) hM1) ?_
 rintro w3 ⟨Mw3, Kw3, zw3⟩
 rw [keyT_next] at Mw3
 replace hM1 := Mw3
 replace hW := hW.sto Kw3 oQ
 refine LW.pp (.build (cs := #[.func (.func 72) #[] #[], .func (.func 70) #[] #[]]) underlying76 zeroValue76 Tryz.places76 (.cons (.func _) (.cons (.func _) .nil)) rfl) ?_
 refine LW.E (.insert (k := ((2 + 1 : Nat) : Int)) (v := KdV ((2 + 1 : Nat) : Int)) underlying70 underlying3 (.t rfl) (.const _) (.t rfl) hM1) ?_
 rintro w4 ⟨Mw4, Kw4, zw4⟩
 rw [keyT_next] at Mw4
 replace hM1 := Mw4
 replace hW := hW.sto Kw4 oQ
 refine LW.pp (.build (cs := #[.func (.func 73) #[] #[], .func (.func 74) #[] #[]]) underlying76 zeroValue76 Tryz.places76 (.cons (.func _) (.cons (.func _) .nil)) rfl) ?_
 refine LW.E (.insert (k := ((3 + 1 : Nat) : Int)) (v := KdV ((3 + 1 : Nat) : Int)) underlying70 underlying3 (.t rfl) (.const _) (.t rfl) hM1) ?_
 rintro w5 ⟨Mw5, Kw5, zw5⟩
 rw [keyT_next] at Mw5
 replace hM1 := Mw5
 replace hW := hW.sto Kw5 oQ
 refine LW.pp (.build (cs := #[.func (.func 75) #[] #[], .func (.func 76) #[] #[]]) underlying76 zeroValue76 Tryz.places76 (.cons (.func _) (.cons (.func _) .nil)) rfl) ?_
 refine LW.E (.insert (k := ((4 + 1 : Nat) : Int)) (v := KdV ((4 + 1 : Nat) : Int)) underlying70 underlying3 (.t rfl) (.const _) (.t rfl) hM1) ?_
 rintro w6 ⟨Mw6, Kw6, zw6⟩
 rw [keyT_next] at Mw6
 replace hM1 := Mw6
 replace hW := hW.sto Kw6 oQ
 refine LW.pp (.build (cs := #[.func (.func 77) #[] #[], .func (.func 70) #[] #[]]) underlying76 zeroValue76 Tryz.places76 (.cons (.func _) (.cons (.func _) .nil)) rfl) ?_
 refine LW.E (.insert (k := ((5 + 1 : Nat) : Int)) (v := KdV ((5 + 1 : Nat) : Int)) underlying70 underlying3 (.t rfl) (.const _) (.t rfl) hM1) ?_
 rintro w7 ⟨Mw7, Kw7, zw7⟩
 rw [keyT_next] at Mw7
 replace hM1 := Mw7
 replace hW := hW.sto Kw7 oQ
 refine LW.pp (.build (cs := #[.func (.func 78) #[] #[], .func (.func 70) #[] #[]]) underlying76 zeroValue76 Tryz.places76 (.cons (.func _) (.cons (.func _) .nil)) rfl) ?_
 refine LW.E (.insert (k := ((6 + 1 : Nat) : Int)) (v := KdV ((6 + 1 : Nat) : Int)) underlying70 underlying3 (.t rfl) (.const _) (.t rfl) hM1) ?_
 rintro w8 ⟨Mw8, Kw8, zw8⟩
 rw [keyT_next] at Mw8
 replace hM1 := Mw8
 replace hW := hW.sto Kw8 oQ
 refine LW.pp (.build (cs := #[.func (.func 79) #[] #[], .func (.func 80) #[] #[]]) underlying76 zeroValue76 Tryz.places76 (.cons (.func _) (.cons (.func _) .nil)) rfl) ?_
 refine LW.E (.insert (k := ((7 + 1 : Nat) : Int)) (v := KdV ((7 + 1 : Nat) : Int)) underlying70 underlying3 (.t rfl) (.const _) (.t rfl) hM1) ?_
 rintro w9 ⟨Mw9, Kw9, zw9⟩
 rw [keyT_next] at Mw9
 replace hM1 := Mw9
 replace hW := hW.sto Kw9 oQ
 refine LW.pp (.build (cs := #[.func (.func 81) #[] #[], .func (.func 70) #[] #[]]) underlying76 zeroValue76 Tryz.places76 (.cons (.func _) (.cons (.func _) .nil)) rfl) ?_
 refine LW.E (.insert (k := ((8 + 1 : Nat) : Int)) (v := KdV ((8 + 1 : Nat) : Int)) underlying70 underlying3 (.t rfl) (.const _) (.t rfl) hM1) ?_
 rintro w10 ⟨Mw10, Kw10, zw10⟩
 rw [keyT_next] at Mw10
 replace hM1 := Mw10
 replace hW := hW.sto Kw10 oQ
 refine LW.pp (.build (cs := #[.func (.func 82) #[] #[], .func (.func 83) #[] #[]]) underlying76 zeroValue76 Tryz.places76 (.cons (.func _) (.cons (.func _) .nil)) rfl) ?_
 refine LW.E (.insert (k := ((9 + 1 : Nat) : Int)) (v := KdV ((9 + 1 : Nat) : Int)) underlying70 underlying3 (.t rfl) (.const _) (.t rfl) hM1) ?_
 rintro w11 ⟨Mw11, Kw11, zw11⟩
 rw [keyT_next] at Mw11
 replace hM1 := Mw11
 replace hW := hW.sto Kw11 oQ
 refine LW.pp (.build (cs := #[.func (.func 84) #[] #[], .func (.func 70) #[] #[]]) underlying76 zeroValue76 Tryz.places76 (.cons (.func _) (.cons (.func _) .nil)) rfl) ?_
 refine LW.E (.insert (k := ((10 + 1 : Nat) : Int)) (v := KdV ((10 + 1 : Nat) : Int)) underlying70 underlying3 (.t rfl) (.const _) (.t rfl) hM1) ?_
 rintro w12 ⟨Mw12, Kw12, zw12⟩
 rw [keyT_next] at Mw12
 replace hM1 := Mw12
 replace hW := hW.sto Kw12 oQ
 refine LW.M rfl (LW.A rfl (LW.T (CW.ret ?_)))
 refine KW.ret1 rfl rfl ⟨_, rfl, ?_⟩
 exact ⟨_, rfl, hM1, by omega, hW⟩
end Go.Proofs.YtmimclgihlhaeaaGreat
namespace Go.Wx
abbrev FMap := List (List UInt8 × Fact)
def fget (m : FMap) (k : List UInt8) : Option Fact := (m.find? fun p => p.1 == k).map (·.2)
def fset (m : FMap) (k : List UInt8) (f : Fact) : FMap := if k ∈ m.map (·.1) then m.map (fun p => if p.1 = k then (k, f) else p) else m ++ [(k, f)]
def encM (m : FMap) : List (List UInt8 × Go.Value) := m.map fun p => (p.1, .agg p.2.cells)
theorem encM_keys (m : FMap) : (encM m).map (·.1) = m.map (·.1) := by simp [encM]
theorem encM_set (m : FMap) (k : List UInt8) (f : Fact) : Ms.mset (encM m) k (.agg f.cells) = encM (fset m k f) := by
 unfold Ms.mset fset
 rw [encM_keys]
 split
 · simp only [encM, List.map_map]
   apply List.map_congr_left
   intro p _
   simp only [Function.comp]
   split <;> rfl
 simp [encM]
theorem fget_some {m : FMap} {k : List UInt8} {f : Fact} (h : fget m k = some f) : (k, .agg f.cells) ∈ encM m := by
 unfold fget at h
 cases hf : m.find? (fun p => p.1 == k) with
 | none => rw [hf] at h; cases h
 | some p =>
   rw [hf] at h
   have h1 := List.mem_of_find?_eq_some hf
   have h2 : (p.1 == k) = true := List.find?_some (p := fun p : List UInt8 × Fact => p.1 == k) hf
   have h3 := eq_of_beq h2
   simp at h
   refine List.mem_map.2 ⟨p, h1, ?_⟩
   rw [h3, h]
theorem fget_none {m : FMap} {k : List UInt8} (h : fget m k = none) : k ∉ (encM m).map (·.1) := by
 rw [encM_keys]
 intro hm
 obtain ⟨p, hp, e⟩ := List.mem_map.1 hm
 unfold fget at h
 rw [Option.map_eq_none_iff, List.find?_eq_none] at h
 exact h p hp (by simp [e])
def bestStep (day : Int) (m : FMap) (f : Fact) : FMap := if keyB f = [] ∨ day < f.Day then m else match fget m (keyB f) with
 | none => fset m (keyB f) f
 | some old => if prevB f old = true then fset m (keyB f) f else m
def bestL (l : List Fact) (day : Int) : FMap := l.foldl (bestStep day) []
theorem best_next {l : List Fact} {day : Int} {k : Nat} {x : Fact} (h : l[k]? = some x) : bestL (l.take (k + 1)) day = bestStep day (bestL (l.take k) day) x := by
 rw [take_succ_of h, bestL, List.foldl_append]; rfl
theorem best_skip {day : Int} {m : FMap} {x : Fact} (h : keyB x = [] ∨ day < x.Day) : bestStep day m x = m := by rw [bestStep, if_pos h]
theorem best_new {day : Int} {m : FMap} {x : Fact} (h : ¬ (keyB x = [] ∨ day < x.Day)) (hg : fget m (keyB x) = none) : bestStep day m x = fset m (keyB x) x := by rw [bestStep, if_neg h, hg]
theorem best_put {day : Int} {m : FMap} {x old : Fact} (h : ¬ (keyB x = [] ∨ day < x.Day)) (hg : fget m (keyB x) = some old) (hp : prevB x old = true) : bestStep day m x = fset m (keyB x) x := by rw [bestStep, if_neg h, hg]; simp [hp]
theorem best_old {day : Int} {m : FMap} {x old : Fact} (h : ¬ (keyB x = [] ∨ day < x.Day)) (hg : fget m (keyB x) = some old) (hp : prevB x old = false) : bestStep day m x = m := by rw [bestStep, if_neg h, hg]; simp [hp]
def MOk (m : FMap) : Prop := ∀ p ∈ m, p.1 = keyB p.2 ∧ validB p.2 = true
theorem keyB_valid {f : Fact} (h : keyB f ≠ []) : validB f = true := by
 cases hv : validB f with
 | true => rfl
 | false => rw [keyB, if_neg (by rw [hv]; exact Bool.false_ne_true)] at h; exact absurd rfl h
theorem MOk.set {m : FMap} {f : Fact} (h : MOk m) (hf : validB f = true) : MOk (fset m (keyB f) f) := by
 intro p hp
 unfold fset at hp
 split at hp
 · obtain ⟨q, hq, e⟩ := List.mem_map.1 hp
   split at e
   · rw [← e]; exact ⟨rfl, hf⟩
   rw [← e]; exact h q hq
 rcases List.mem_append.1 hp with hp | hp
 · exact h p hp
 simp at hp; rw [hp]; exact ⟨rfl, hf⟩
theorem fset_len (m : FMap) (k : List UInt8) (f : Fact) : (fset m k f).length ≤ m.length + 1 := by
 unfold fset
 split <;> simp
theorem MOk.step {m : FMap} (h : MOk m) (day : Int) (f : Fact) : MOk (bestStep day m f) ∧ (bestStep day m f).length ≤ m.length + 1 := by
 unfold bestStep
 split
 · exact ⟨h, by omega⟩
 rename_i hk
 have hv : validB f = true := keyB_valid fun e => hk (.inl e)
 split
 · exact ⟨h.set hv, fset_len _ _ _⟩
 split
 · exact ⟨h.set hv, fset_len _ _ _⟩
 exact ⟨h, by omega⟩
theorem best_ok (day : Int) : ∀ (l : List Fact), MOk (bestL l day) ∧ (bestL l day).length ≤ l.length := by
 have : ∀ (l : List Fact) (m : FMap), MOk m → MOk (l.foldl (bestStep day) m) ∧ (l.foldl (bestStep day) m).length ≤ m.length + l.length := by
   intro l
   induction l with
   | nil => intro m h; exact ⟨h, by simp⟩
   | cons x l ih =>
     intro m h
     have h1 := h.step day x
     have h2 := ih _ h1.1
     exact ⟨h2.1, by have := h2.2; simp only [List.foldl_cons, List.length_cons]; omega⟩
 intro l
 have h := this l [] (fun p hp => by simp at hp)
 exact ⟨h.1, by have := h.2; simp only [List.length_nil, Nat.zero_add] at this; exact this⟩
def lstAt (dn : List Int) (ds : List Fact) (j : Nat) : List Fact :=
 if ((j + 1 : Nat) : Int) ∈ dn then sortK (ordK ((j + 1 : Nat) : Int)) (ds.filter fun f => !f.Gone && decide (f.Kind = ((j + 1 : Nat) : Int))) else ds.filter fun f => !f.Gone && decide (f.Kind = ((j + 1 : Nat) : Int))
def byK (dn : List Int) (ds : List Fact) : List (List Fact) := (List.range 11).map (lstAt dn ds)
theorem byK_len (dn : List Int) (ds : List Fact) : (byK dn ds).length = 11 := by simp [byK]
theorem byK_get (dn : List Int) (ds : List Fact) {j : Nat} (hj : j < 11) : (byK dn ds)[j]? = some (lstAt dn ds j) := by simp [byK, hj]
theorem byK_gone {ds : List Fact} {x : Fact} (h : x.Gone = true) : byK [] (ds ++ [x]) = byK [] ds := by
 unfold byK
 apply List.map_congr_left
 intro j _
 simp [lstAt, h]
theorem byK_add {ds : List Fact} {x : Fact} {j : Nat} (h : x.Gone = false) (hj : j < 11) (hk : x.Kind = ((j + 1 : Nat) : Int)) : byK [] (ds ++ [x]) = (byK [] ds).set j (lstAt [] ds j ++ [x]) := by
 apply List.ext_getElem?
 intro i
 rw [List.getElem?_set]
 by_cases e : j = i
 · subst e
   rw [if_pos rfl, if_pos (by rw [byK_len]; exact hj), byK_get _ _ hj]
   simp [lstAt, h, hk]
 rw [if_neg e]
 by_cases hi : i < 11
 · rw [byK_get _ _ hi, byK_get _ _ hi]
   have : decide (x.Kind = ((i + 1 : Nat) : Int)) = false := decide_eq_false oQ
   simp only [lstAt, List.not_mem_nil, if_false, List.filter_append]
   rw [List.filter_cons, if_neg (by rw [this, Bool.and_false]; exact Bool.false_ne_true)]
   simp
 rw [List.getElem?_eq_none (by rw [byK_len]; omega), List.getElem?_eq_none (by rw [byK_len]; omega)]
theorem byK_sort {dn : List Int} {ds : List Fact} {j : Nat} (hj : j < 11) (hn : ((j + 1 : Nat) : Int) ∉ dn) : (byK dn ds).set j (sortK (ordK ((j + 1 : Nat) : Int)) (lstAt dn ds j)) = byK (dn ++ [((j + 1 : Nat) : Int)]) ds := by
 apply List.ext_getElem?
 intro i
 rw [List.getElem?_set]
 by_cases e : j = i
 · subst e
   rw [if_pos rfl, if_pos (by rw [byK_len]; exact hj), byK_get _ _ hj]
   unfold lstAt
   rw [if_neg hn, if_pos (List.mem_append_right _ (List.mem_singleton.2 rfl))]
 rw [if_neg e]
 by_cases hi : i < 11
 · rw [byK_get _ _ hi, byK_get _ _ hi]
   have : ((i + 1 : Nat) : Int) ≠ ((j + 1 : Nat) : Int) := by omega
   simp only [lstAt, List.mem_append, List.mem_singleton, this, or_false]
 rw [List.getElem?_eq_none (by rw [byK_len]; omega), List.getElem?_eq_none (by rw [byK_len]; omega)]
theorem lst_len (dn : List Int) (ds : List Fact) (j : Nat) : (lstAt dn ds j).length ≤ ds.length := by
 unfold lstAt
 split
 · rw [(sortK_sts _).same.length]; exact List.length_filter_le _ _
 exact List.length_filter_le _ _
theorem byK_nil : byK [] [] = List.replicate 11 ([] : List Fact) := by
 rfl
theorem set_arr (vs : List Go.Value) (j : Nat) (v : Go.Value) : vs.toArray.setIfInBounds j v = (vs.set j v).toArray := by simp
theorem key_empty {x : Fact} (h : keyB x = []) : ((⟨(keyB x).toArray⟩ : ByteArray).toList == (⟨#[]⟩ : ByteArray).toList) = true := by rw [ba_toList, ba_toList, h]; rfl
theorem key_full {x : Fact} (h : keyB x ≠ []) : ((⟨(keyB x).toArray⟩ : ByteArray).toList == (⟨#[]⟩ : ByteArray).toList) = false := by
 rw [ba_toList, ba_toList]
 simpa using h
theorem eleven_split {vs : List Go.Value} (h : vs.length = 11) : ∃ v0 v1 v2 v3 v4 v5 v6 v7 v8 v9 v10, vs = [v0, v1, v2, v3, v4, v5, v6, v7, v8, v9, v10] := by
 match vs, h with
 | [v0, v1, v2, v3, v4, v5, v6, v7, v8, v9, v10], _ => exact ⟨v0, v1, v2, v3, v4, v5, v6, v7, v8, v9, v10, rfl⟩
def baseL (ds : List Fact) : Base := ⟨lstAt [1] ds 0, lstAt [2] ds 1, lstAt [3] ds 2, lstAt [4] ds 3, lstAt [5] ds 4, lstAt [6] ds 5, lstAt [7] ds 6, lstAt [8] ds 7, lstAt [9] ds 8, lstAt [10] ds 9, lstAt [11] ds 10⟩
theorem lst_done {dn : List Int} {ds : List Fact} {j : Nat} (h : ((j + 1 : Nat) : Int) ∈ dn) : lstAt dn ds j = lstAt [((j + 1 : Nat) : Int)] ds j := by
 unfold lstAt
 rw [if_pos h, if_pos (List.mem_singleton.2 rfl)]
end Go.Wx
namespace Go.Proofs.YtmimclgihlhaeaaGreat
open Go.Proofs.Tryz
open Go.Wx Go.RowKit
end Go.Proofs.YtmimclgihlhaeaaGreat
namespace Go.Wx
theorem nodup_snoc {ds : List Fact} {x : Fact} (h : (ds.map keyB).Nodup) (hf : keyB x ∉ ds.map keyB) : ((ds ++ [x]).map keyB).Nodup := by
 rw [List.map_append, List.nodup_append]
 exact ⟨h, by simp, fun a ha c hc => by simp at hc; subst hc; exact fun e => hf (e ▸ ha)⟩
theorem nodup_le {ds : List Fact} {M : FMap} (h : ∀ f ∈ ds, (keyB f, f) ∈ M) (hn : (ds.map keyB).Nodup) : ds.length ≤ M.length := by
 have := hn.length_le_of_subset (l₂ := M.map (·.1)) (fun k hk => by
   obtain ⟨f, hf, rfl⟩ := List.mem_map.1 hk
   exact List.mem_map.2 ⟨_, h f hf, rfl⟩)
 simpa using this
theorem nodup_lt {ds : List Fact} {M : FMap} {x : Fact} (h : ∀ f ∈ ds, (keyB f, f) ∈ M) (hn : (ds.map keyB).Nodup) (hx : (keyB x, x) ∈ M) (hf : keyB x ∉ ds.map keyB) : ds.length + 1 ≤ M.length := by
 have := nodup_le (ds := ds ++ [x]) (M := M) (fun f hf => by rcases List.mem_append.1 hf with hf | hf; exact h f hf; simp at hf; rw [hf]; exact hx) (nodup_snoc hn hf)
 simpa using this
theorem eleven_le {dn : List Int} (h : dn.Nodup ∧ ∀ k ∈ dn, 1 ≤ k ∧ k ≤ 11) : dn.length ≤ 11 := by
 have := h.1.length_le_of_subset (l₂ := [1, 2, 3, 4, 5, 6, 7, 8, 9, 10, 11]) (fun k hk => by
   have := h.2 k hk
   simp; omega)
 simpa using this
theorem eleven_lt {dn : List Int} {k : Int} (h : dn.Nodup ∧ ∀ k ∈ dn, 1 ≤ k ∧ k ≤ 11) (hk : 1 ≤ k ∧ k ≤ 11) (hf : k ∉ dn) : dn.length + 1 ≤ 11 := by
 have := eleven_le (dn := dn ++ [k]) ⟨List.nodup_append.2 ⟨h.1, by simp, fun a ha c hc => by simp at hc; subst hc; exact fun e => hf (e ▸ ha)⟩, fun q hq => by rcases List.mem_append.1 hq with hq | hq; exact h.2 q hq; simp at hq; rw [hq]; exact hk⟩
 simpa using this
theorem set_same {α : Type} {vs : List α} {j : Nat} {v : α} (h : vs[j]? = some v) : vs.set j v = vs := by
 apply List.ext_getElem?
 intro i
 rw [List.getElem?_set]
 by_cases e : j = i
 · subst e
   rw [if_pos rfl, if_pos (List.getElem?_eq_some_iff.1 h).1, h]
 rw [if_neg e]
theorem lists_sl {e : Nat} {dn : List Int} {ds : List Fact} {vs : List Go.Value} {w : World} (h : (aAnd (lists e 19 Fact.cells vs (byK dn ds))).holds w) {j : Nat} {v : Go.Value} (hv : vs[j]? = some v) (hj : j < 11) (hin : ((j + 1 : Nat) : Int) ∈ dn) : Sl w v 19 Fact.cells (lstAt [((j + 1 : Nat) : Int)] ds j) := by
 have := (lists_own h hv (byK_get _ _ hj)).sl (fun _ => rfl)
 rwa [lst_done hin] at this
theorem lists_ow {e : Nat} {dn : List Int} {ds : List Fact} {vs : List Go.Value} {w : World} (h : (aAnd (lists e 19 Fact.cells vs (byK dn ds))).holds w) {j : Nat} {v : Go.Value} (hv : vs[j]? = some v) (hj : j < 11) (hin : ((j + 1 : Nat) : Int) ∈ dn) : OwnS w 0 e 19 Fact.cells v (lstAt [((j + 1 : Nat) : Int)] ds j) := by
 have := lists_own h hv (byK_get _ _ hj)
 rwa [lst_done hin] at this
def BaseB (base : Nat) (bc : Array Go.Value) : Prop := ∀ (j : Nat) (v : Go.Value), bc[j]? = some v → ∀ i, v.ownBlock = some i → base ≤ i
theorem lists_base {α : Type} {e k base : Nat} {enc : α → Array Go.Value} {vs : List Go.Value} {xss : List (List α)} (hl : vs.length = xss.length) (h : ∀ i, (aAnd (lists e k enc vs xss)).foot i → base ≤ i) : BaseB base vs.toArray := fun j v hv i hi => by
 have hv2 : vs[j]? = some v := by simpa using hv
 have hlt := (List.getElem?_eq_some_iff.1 hv2).1
 obtain ⟨xs, hx⟩ := getElem?_of_lt (xs := xss) (i := j) oQ
 exact h i ⟨_, List.mem_of_getElem? (lists_get hv2 hx), hi⟩
theorem all_one {vs : List Go.Value} (h : ∀ v ∈ vs, v.oneCell' = true) : vs.toArray.all (·.oneCell') = true := by
 rw [Array.all_eq_true_iff_forall_mem]
 intro v hv
 exact h v (by simpa using hv)
end Go.Wx
namespace Go.Proofs.YtmimclgihlhaeaaGreat
open Go.Proofs.Tryz
open Go.Wx Go.RowKit
set_option maxHeartbeats 8000000 in
theorem Of_walk (ad : Option Addr) (cp : Nat) (l : List Fact) (day : Int) (w : World) (hE0 : Els w ad 19 Fact.cells l) (hl : l.length ≤ 100000) : Ret Tryz.prog 13 #[.slice ad l.length cp, vi day] w fun r w' => ∃ bc ds, r = .agg bc ∧ BaseC w' bc (baseL ds) ∧ (∀ f ∈ ds, (keyB f, f) ∈ bestL l day) ∧ (ds.map keyB).Perm ((bestL l day).map (·.1)) ∧ BaseB w.heap.size bc ∧ (∃ v, bc[0]? = some v ∧ OwnS w' 0 36 19 Fact.cells v (baseL ds).Processes) ∧ Up w w' := by
 obtain ⟨w0, rfl⟩ : ∃ w0, w0 = w := ⟨_, rfl⟩
 have hS := Sep.start no w0
 refine cS (n := 91) (m := 9) func13 rfl rfl rfl ?_
 refine CW.S ?_
 refine LW.rr (.allocA zeroValue38) rfl ?_
 rintro _ w1 ⟨B4, rfl, NB4⟩
 have eB4 := NB4.at_
 have zB4 := NB4.size
 replace hS := hS.addB NB4
 change Wx.Sep _ _ _ [_] at hS
 refine LW.S (CW.region ?_)
 refine LW.r Ms.REv.makeMap rfl rfl rfl rfl ?_
 rintro _ w2 ⟨B18, rfl, M18, u18, e18, z18⟩
 replace hS := hS.add u18 (A' := Ms.aIMap B18 (encM [])) M18 (fun i (e : i = B18) => by omega)
 change Wx.Sep _ _ _ [_, _] at hS
 refine LW.A rfl (LW.S (CW.S (LW.M rfl ?_)))
 refine LW.pp (.lenS underlying23 (.t rfl)) ?_
 refine LW.pp (.move (.const _)) ?_
 refine LW.T (CW.block ?_)
 refine CW.loopB (σ := Nat) (fun s w => (s ≤ l.length) ∧ (Wx.Sep no w0 w [aBlk B4 #[.slice none 0 0, .slice none 0 0, .slice none 0 0, .slice none 0 0, .slice none 0 0, .slice none 0 0, .slice none 0 0, .slice none 0 0, .slice none 0 0, .slice none 0 0, .slice none 0 0] 38, Ms.aIMap B18 (encM (bestL (l.take s) day))])) (fun s => [(21, .eq (vi (s : Int)))]) ([(1, .eq _), (4, .eq _), (5, .eq _), (19, .eq _), (20, .eq _)]) (fun s => l.length - s) 0 ?_ ⟨rfl, rfl, rfl, rfl, rfl, rfl, trivial⟩ ?_
 ·exact ⟨Nat.zero_le _, hS⟩
 rintro k w3 ⟨hkk, hS⟩
 refine CW.S ?_
 refine LW.pp (.lss (.t rfl) (.t rfl)) ?_
 refine LW.S ?_
 refine CW.cond (.t rfl) (fun h22 => ?_) (fun h22 => ?_)
 ·replace h22 := dQ h22
  refine CW.skip (KW.then (CW.seq (CW.block (CW.seq ?_))))
  have hE := Els.up hE0 hS.upd
  have hkl : k < l.length := by simp at h22; omega
  refine CW.region ?_
  obtain ⟨x, hx⟩ := getElem?_of_lt (xs := l) (i := k) oQ
  obtain ⟨Bx, ox, ax, hcx⟩ := hE _ x hx
  refine LW.pp (.indexAddr' underlying23 sizeOf36 (.t rfl) (.t rfl) oQ ax) ?_
  refine LW.pp (.la isAgg36 sizeOf36 rfl (hcx)) ?_
  refine LW.rr (.allocA zeroValue36) rfl ?_
  rintro _ w4 ⟨B7, rfl, MB7⟩
  refine LW.E (.storeA sizeOf36 rfl (.t rfl) (.t rfl) eQ MB7.blk rfl) ?_
  intro w5 LB7
  have NB7 := MB7.set LB7
  clear LB7 MB7
  have eB7 := NB7.at_
  have zB7 := NB7.size
  replace hcx := hcx.up NB7.up
  replace hS := hS.addB NB7
  change Wx.Sep _ _ _ [_, _, _] at hS
  refine LW.S (CW.region ?_)
  refine LW.pp (.la isAgg36 sizeOf36 rfl ((hS.blk 2 rfl).agg)) ?_
  refine LW.K (eC (.o rfl) (en31)) rfl (Key_any x _) ?_
  rintro _ w6 ⟨rfl, uw6⟩
  have zw6 := uw6.size
  replace hS := hS.up uw6
  refine LW.A rfl (LW.S (CW.seq ?_))
  cases hq6 : decide (keyB x = []) with
  | true =>
   replace hq6 := of_decide_eq_true hq6
   refine CW.region (LW.M rfl ?_)
   refine LW.pp (.tr (PEv.eqlStr (.t rfl) (.const _)) (key_empty hq6)) ?_
   refine LW.M rfl ?_
   refine LW.N ?_
   refine LW.N ?_
   refine LW.N ?_
   refine LW.N ?_
   refine LW.pp (.tr (PEv.pick_or (b := false) (.t rfl) (fun hp => absurd (show true = false from hp) cQ)) (rfl)) ?_
   refine LW.T ?_
   refine CW.cond_true (.t rfl) ?_
   refine CW.exit (KW.then_exit (KW.block_hit (KW.then (CW.region ?_))))
   refine LW.pp (.inc (.t rfl) oQ) ?_
   refine LW.M rfl (LW.nil (KW.round ?_))
   exact ⟨k + 1, ⟨by omega, by rw [best_next hx]; first | (rw [best_skip (.inl hq6)]; exact hS.take 2) | (rw [best_skip (.inr h34)]; exact hS.take 2) | (rw [best_new hno hq7]; exact hS.take 2) | (rw [best_put hno hq7 h47]; exact hS.take 2) | (rw [best_old hno hq7 h47]; exact hS.take 2)⟩, ⟨rfl, rfl, rfl, rfl, rfl, rfl, trivial⟩, by first | omega | (dsimp only; omega)⟩
  | false =>
   replace hq6 := of_decide_eq_false hq6
   refine CW.region (LW.M rfl ?_)
   refine LW.pp (.fa (PEv.eqlStr (.t rfl) (.const _)) (key_full hq6)) ?_
   refine LW.M rfl ?_
   refine LW.Y ?_
   refine LW.pp (.fA 3 underlying36 rfl sizeOf3 rfl) ?_
   refine LW.Y ?_
   refine LW.pp (.ld isAgg3 rfl ((hS.blk 2 rfl).celln rfl)) ?_
   refine LW.Y ?_
   refine LW.M rfl ?_
   refine LW.Y ?_
   refine LW.pp (.gtr (.t rfl) (.t rfl)) ?_
   refine LW.pp (.pick_or (.t rfl) (fun hp => (by first | exact .const _ | exact .tmp rfl | exact .cond rfl (by first | assumption | simp_all)))) ?_
   refine LW.T ?_
   refine CW.cond (.t rfl) (fun h34 => ?_) (fun h34 => ?_)
   ·replace h34 := dQ h34
    skip
    refine CW.exit (KW.then_exit (KW.block_hit (KW.then (CW.region ?_))))
    refine LW.pp (.inc (.t rfl) oQ) ?_
    refine LW.M rfl (LW.nil (KW.round ?_))
    exact ⟨k + 1, ⟨by omega, by rw [best_next hx]; first | (rw [best_skip (.inl hq6)]; exact hS.take 2) | (rw [best_skip (.inr h34)]; exact hS.take 2) | (rw [best_new hno hq7]; exact hS.take 2) | (rw [best_put hno hq7 h47]; exact hS.take 2) | (rw [best_old hno hq7 h47]; exact hS.take 2)⟩, ⟨rfl, rfl, rfl, rfl, rfl, rfl, trivial⟩, by first | omega | (dsimp only; omega)⟩
   replace h34 := dQ h34
   have hno : ¬ (keyB x = [] ∨ day < x.Day) := fun h => h.elim hq6 (fun h2 => by simp at h34; omega)
   refine CW.skip (KW.then (CW.seq ?_))
   cases hq7 : fget (bestL (l.take k) day) (keyB x) with
   | none =>
    refine CW.region (LW.M rfl (LW.M rfl ?_))
    refine LW.pp (Ms.PEv.lookupNo underlying66 underlying9 zeroValue36 (.t rfl) (.t rfl) (hS.get 1 rfl) (fget_none hq7)) ?_
    refine LW.M rfl (LW.pp (.extract (.t rfl) rfl) (LW.pp (.extract (.t rfl) rfl) ?_))
    refine LW.rr (.allocA zeroValue36) rfl ?_
    rintro _ w7 ⟨B9, rfl, MB9⟩
    refine LW.E (.storeA sizeOf36 rfl (.t rfl) (.t rfl) eQ MB9.blk rfl) ?_
    intro w8 LB9
    have NB9 := MB9.set LB9
    clear LB9 MB9
    have eB9 := NB9.at_
    have zB9 := NB9.size
    replace hS := hS.addB NB9
    change Wx.Sep _ _ _ [_, _, _, _] at hS
    refine LW.A rfl (LW.S (CW.region (LW.M rfl ?_)))
    refine LW.pp (.tr (PEv.not (.t rfl)) (rfl)) ?_
    refine LW.M rfl ?_
    refine LW.N ?_
    refine LW.N ?_
    refine LW.N ?_
    refine LW.pp (.tr (PEv.pick_or (b := false) (.t rfl) (fun hp => absurd (show true = false from hp) cQ)) (rfl)) ?_
    refine LW.T ?_
    refine CW.cond_true (.t rfl) ?_
    refine CW.region (LW.M rfl (LW.M rfl ?_))
    refine LW.pp (.la isAgg36 sizeOf36 rfl ((hS.blk 2 rfl).agg)) ?_
    refine LW.E (Ms.SEv.mapUpdate underlying66 underlying9 (.t rfl) (.t rfl) (.t rfl) (hS.get 1 rfl)) ?_
    rintro w9 ⟨Mu, Ku, zu⟩
    rw [encM_set] at Mu
    replace hS := hS.stp 1 rfl (Ms.stp_set Mu Ku)
    change Wx.Sep _ _ _ [_, _, _, _] at hS
    refine LW.nil (KW.inBlock (KW.then (CW.region ?_)))
    refine LW.pp (.inc (.t rfl) oQ) ?_
    refine LW.M rfl (LW.nil (KW.round ?_))
    exact ⟨k + 1, ⟨by omega, by rw [best_next hx]; first | (rw [best_skip (.inl hq6)]; exact hS.take 2) | (rw [best_skip (.inr h34)]; exact hS.take 2) | (rw [best_new hno hq7]; exact hS.take 2) | (rw [best_put hno hq7 h47]; exact hS.take 2) | (rw [best_old hno hq7 h47]; exact hS.take 2)⟩, ⟨rfl, rfl, rfl, rfl, rfl, rfl, trivial⟩, by first | omega | (dsimp only; omega)⟩
   | some old =>
    refine CW.region (LW.M rfl (LW.M rfl ?_))
    refine LW.pp (Ms.PEv.lookupYes underlying66 underlying9 (.t rfl) (.t rfl) (hS.get 1 rfl) (fget_some hq7)) ?_
    refine LW.M rfl (LW.pp (.extract (.t rfl) rfl) (LW.pp (.extract (.t rfl) rfl) ?_))
    refine LW.rr (.allocA zeroValue36) rfl ?_
    rintro _ w10 ⟨B9, rfl, MB9⟩
    refine LW.E (.storeA sizeOf36 rfl (.t rfl) (.t rfl) eQ MB9.blk rfl) ?_
    intro w11 LB9
    have NB9 := MB9.set LB9
    clear LB9 MB9
    have eB9 := NB9.at_
    have zB9 := NB9.size
    replace hS := hS.addB NB9
    change Wx.Sep _ _ _ [_, _, _, _] at hS
    refine LW.A rfl (LW.S (CW.region (LW.M rfl ?_)))
    refine LW.pp (.fa (PEv.not (.t rfl)) (rfl)) ?_
    refine LW.M rfl ?_
    refine LW.Y ?_
    refine LW.pp (.la isAgg36 sizeOf36 rfl ((hS.blk 2 rfl).agg)) ?_
    refine LW.Y ?_
    refine LW.pp (.la isAgg36 sizeOf36 rfl ((hS.blk 3 rfl).agg)) ?_
    refine LW.Y ?_
    refine LW.K (eC (.u rfl rfl) (en32)) rfl (Prevails_any x old _) ?_
    rintro _ w12 ⟨rfl, uw12⟩
    have zw12 := uw12.size
    replace hS := hS.up uw12
    refine LW.pp (.pick_or (.t rfl) (fun hp => (by first | exact .const _ | exact .tmp rfl | exact .cond rfl (by first | assumption | simp_all)))) ?_
    refine LW.T ?_
    refine CW.cond (.t rfl) (fun h47 => ?_) (fun h47 => ?_)
    ·replace h47 := dQ h47
     replace h47 : prevB x old = true := by simpa using h47
     refine CW.region (LW.M rfl (LW.M rfl ?_))
     refine LW.pp (.la isAgg36 sizeOf36 rfl ((hS.blk 2 rfl).agg)) ?_
     refine LW.E (Ms.SEv.mapUpdate underlying66 underlying9 (.t rfl) (.t rfl) (.t rfl) (hS.get 1 rfl)) ?_
     rintro w13 ⟨Mu, Ku, zu⟩
     rw [encM_set] at Mu
     replace hS := hS.stp 1 rfl (Ms.stp_set Mu Ku)
     change Wx.Sep _ _ _ [_, _, _, _] at hS
     refine LW.nil (KW.inBlock (KW.then (CW.region ?_)))
     refine LW.pp (.inc (.t rfl) oQ) ?_
     refine LW.M rfl (LW.nil (KW.round ?_))
     exact ⟨k + 1, ⟨by omega, by rw [best_next hx]; first | (rw [best_skip (.inl hq6)]; exact hS.take 2) | (rw [best_skip (.inr h34)]; exact hS.take 2) | (rw [best_new hno hq7]; exact hS.take 2) | (rw [best_put hno hq7 h47]; exact hS.take 2) | (rw [best_old hno hq7 h47]; exact hS.take 2)⟩, ⟨rfl, rfl, rfl, rfl, rfl, rfl, trivial⟩, by first | omega | (dsimp only; omega)⟩
    replace h47 := dQ h47
    replace h47 : prevB x old = false := by simpa using h47
    refine CW.skip (KW.inBlock (KW.then (CW.region ?_)))
    refine LW.pp (.inc (.t rfl) oQ) ?_
    refine LW.M rfl (LW.nil (KW.round ?_))
    exact ⟨k + 1, ⟨by omega, by rw [best_next hx]; first | (rw [best_skip (.inl hq6)]; exact hS.take 2) | (rw [best_skip (.inr h34)]; exact hS.take 2) | (rw [best_new hno hq7]; exact hS.take 2) | (rw [best_put hno hq7 h47]; exact hS.take 2) | (rw [best_old hno hq7 h47]; exact hS.take 2)⟩, ⟨rfl, rfl, rfl, rfl, rfl, rfl, trivial⟩, by first | omega | (dsimp only; omega)⟩
 replace h22 := dQ h22
 refine CW.exit (KW.then_exit (KW.then_exit (KW.block_hit (KW.then (CW.seq ?_)))))
 have hkl : k = l.length := by simp at h22; omega
 subst hkl
 rw [List.take_length] at hS
 obtain ⟨M, hM⟩ : ∃ M, M = bestL l day := ⟨_, rfl⟩
 rw [← hM] at hS
 have hMo := (best_ok day l).1
 have hMl := (best_ok day l).2
 rw [← hM] at hMo hMl
 refine CW.region ?_
 refine LW.rr (.allocA zeroValue38) rfl ?_
 rintro _ w14 ⟨B11, rfl, NB11⟩
 have eB11 := NB11.at_
 have zB11 := NB11.size
 replace hS := hS.addB NB11
 change Wx.Sep _ _ _ [_, _, _] at hS
 refine LW.S (CW.region ?_)
 refine LW.K (eC .nil (en33)) rfl (kinds_any _) ?_
 rintro _ w15 ⟨bk, rfl, hKm, hKb, uw15⟩
 have zw15 := uw15.size
 replace hS := hS.add uw15 (A' := aIMap bk (keyT KdV 11)) (hKm) (fun i (e : i = bk) => by omega)
 change Wx.Sep _ _ _ [_, _, _, _] at hS
 refine LW.A rfl (LW.S (CW.seq ?_))
 have hLn := lists_nil 36 19 Fact.cells 11 w15
 replace hS := hS.add (Up.refl _) (A' := aAnd (lists 36 19 Fact.cells (List.replicate 11 (.slice none 0 0)) (List.replicate 11 ([] : List Fact)))) hLn.1 (fun i h => absurd h (hLn.2 i))
 rw [← byK_nil] at hS
 change Wx.Sep _ _ _ [_, _, _, _, _] at hS
 refine CW.region (LW.M rfl ?_)
 refine LW.rr (Ms.REv.range underlying66 (.t rfl) (hS.get 1 rfl)) rfl ?_
 rintro _ w16 ⟨r54, rfl, hR_, uR, eR, zR⟩
 replace hS := hS.stp 1 rfl (Ms.stp_range hR_ uR eR)
 change Wx.Sep _ _ _ [_, _, _, _, _] at hS
 clear hR_
 refine LW.T (CW.block ?_)
 refine CW.loopB (σ := List Fact × List Go.Value) (fun s w => (∀ f ∈ s.1, (keyB f, f) ∈ M) ∧ ((s.1.map keyB).Nodup) ∧ (s.2.length = 11) ∧ (Wx.Sep no w0 w [aBlk B4 #[.slice none 0 0, .slice none 0 0, .slice none 0 0, .slice none 0 0, .slice none 0 0, .slice none 0 0, .slice none 0 0, .slice none 0 0, .slice none 0 0, .slice none 0 0, .slice none 0 0] 38, Ms.aIRng B18 r54 (encM M) (s.1.map keyB), aBlk B11 s.2.toArray 38, aIMap bk (keyT KdV 11), aAnd (lists 36 19 Fact.cells s.2 (byK [] s.1))])) (fun s => []) ([(4, .eq _), (11, .eq _), (12, .eq _), (54, .eq _)]) (fun s => M.length - s.1.length) ([], List.replicate 11 (.slice none 0 0)) ?_ ⟨rfl, rfl, rfl, rfl, trivial⟩ ?_
 ·exact ⟨fun f h => by simp at h, List.nodup_nil, rfl, hS⟩
 rintro ⟨ds, vs⟩ w17 ⟨hds, hdn, hvl, hS⟩
 dsimp only at hds hdn hvl hS
 refine CW.S ?_
 refine LW.rr (Ms.REv.next (.t rfl) (hS.get 1 rfl)) rfl ?_
 rintro _ w18 (⟨rfl, rfl, hPm⟩ | ⟨k0, u0, rfl, hNx⟩)
 ·skip
  refine LW.pp (.extract (.t rfl) rfl) (LW.S ?_)
  refine CW.cond_false (.t rfl) ?_
  refine CW.exit (KW.then_exit (KW.then_exit (KW.block_hit (KW.then (CW.seq (CW.seq ?_))))))
  have hPd := hPm
  refine CW.region (LW.M rfl ?_)
  refine LW.rr (.range underlying70 (.t rfl) (hS.get 3 rfl)) rfl ?_
  rintro _ w19 ⟨r77, rfl, hR_, uR, eR, zR⟩
  replace hS := hS.stp 3 rfl (stp_range hR_ uR eR)
  change Wx.Sep _ _ _ [_, _, _, _, _] at hS
  clear hR_
  refine LW.T (CW.block ?_)
  refine CW.loopB (σ := List Int) (fun s w => (s.Nodup ∧ ∀ k ∈ s, 1 ≤ k ∧ k ≤ 11) ∧ (Wx.Sep no w0 w [aBlk B4 #[.slice none 0 0, .slice none 0 0, .slice none 0 0, .slice none 0 0, .slice none 0 0, .slice none 0 0, .slice none 0 0, .slice none 0 0, .slice none 0 0, .slice none 0 0, .slice none 0 0] 38, Ms.aIRng B18 r54 (encM M) (ds.map keyB), aBlk B11 vs.toArray 38, aIRng bk r77 (keyT KdV 11) s, aAnd (lists 36 19 Fact.cells vs (byK s ds))])) (fun s => []) ([(4, .eq _), (11, .eq _), (77, .eq _)]) (fun s => 11 - s.length) [] ?_ ⟨rfl, rfl, rfl, trivial⟩ ?_
  ·exact ⟨⟨List.nodup_nil, fun k h => by simp at h⟩, hS⟩
  rintro dn w20 ⟨hdk, hS⟩
  refine CW.S ?_
  refine LW.rr (.next (.t rfl) (hS.get 3 rfl)) rfl ?_
  rintro _ w21 (⟨rfl, rfl, hPm⟩ | ⟨kk, u0, rfl, hNx⟩)
  ·skip
   refine LW.pp (.extract (.t rfl) rfl) (LW.S ?_)
   refine CW.cond_false (.t rfl) ?_
   refine CW.exit (KW.then_exit (KW.then_exit (KW.block_hit (KW.then (CW.seq ?_)))))
   obtain ⟨v0, v1, v2, v3, v4, v5, v6, v7, v8, v9, v10, rfl⟩ := eleven_split hvl
   have hv1 := lists_one (hS.get 4 rfl) (by rw [hvl, byK_len])
   refine CW.region ?_
   refine LW.pp (.la isAgg38 sizeOf38 rfl ((hS.blk 2 rfl).agg)) ?_
   refine LW.E (.storeA sizeOf38 rfl (.t rfl) (.t rfl) (all_one hv1) (hS.blk 0 rfl) rfl) ?_
   intro w22 Nw22
   have zw22 := Nw22.size
   replace hS := hS.putB 0 rfl Nw22
   change Wx.Sep _ _ _ [_, _, _, _, _] at hS
   refine LW.T (CW.ret ?_)
   refine KW.retA rfl rfl isAgg38 sizeOf38 rfl ((hS.blk 0 rfl).agg) ⟨_, rfl, ?_⟩
   have hOw := hS.get 4 rfl
   have hin : ∀ k : Nat, k < 11 → ((k + 1 : Nat) : Int) ∈ dn := fun k hk => hPm.symm.subset (List.mem_map.2 ⟨(((k + 1 : Nat) : Int), KdV ((k + 1 : Nat) : Int)), keyT_mem.2 ⟨by omega, by omega, rfl⟩, rfl⟩)
   exact ⟨_, ds, rfl, ⟨v0, v1, v2, v3, v4, v5, v6, v7, v8, v9, v10, rfl, lists_sl hOw (j := 0) rfl cQ (hin 0 cQ), lists_sl hOw (j := 1) rfl cQ (hin 1 cQ), lists_sl hOw (j := 2) rfl cQ (hin 2 cQ), lists_sl hOw (j := 3) rfl cQ (hin 3 cQ), lists_sl hOw (j := 4) rfl cQ (hin 4 cQ), lists_sl hOw (j := 5) rfl cQ (hin 5 cQ), lists_sl hOw (j := 6) rfl cQ (hin 6 cQ), lists_sl hOw (j := 7) rfl cQ (hin 7 cQ), lists_sl hOw (j := 8) rfl cQ (hin 8 cQ), lists_sl hOw (j := 9) rfl cQ (hin 9 cQ), lists_sl hOw (j := 10) rfl cQ (hin 10 cQ)⟩, fun f hf => hM ▸ hds f hf, by rw [encM_keys] at hPd; exact hM ▸ hPd, lists_base (by rw [byK_len]; rfl) (fun i hi => (hS.foot 4 rfl i hi).resolve_left fun h => h), ⟨v0, rfl, lists_ow hOw (j := 0) rfl cQ (hin 0 cQ)⟩, hS.upd⟩
  skip
  have zw21 := hNx.size
  replace hS := hS.stp 3 rfl (stp_next hNx)
  change Wx.Sep _ _ _ [_, _, _, _, _] at hS
  obtain ⟨hk1, hk2, hu0⟩ := keyT_mem.1 hNx.mem
  subst hu0
  have hfr2 := hNx.fresh
  have hkk1 : 1 ≤ kk ∧ kk ≤ 11 := ⟨hk1, by omega⟩
  replace hk2 : kk ≤ 11 := by omega
  obtain ⟨j, hj⟩ : ∃ j, j = (kk - 1).toNat := ⟨_, rfl⟩
  have hj11 : j < 11 := by omega
  have hkk2 : kk = ((j + 1 : Nat) : Int) := by omega
  have hdl := nodup_le hds hdn
  obtain ⟨v, hvj⟩ := getElem?_of_lt (xs := vs) (i := j) oQ
  have hdk2 : (dn ++ [kk]).Nodup ∧ ∀ k ∈ dn ++ [kk], 1 ≤ k ∧ k ≤ 11 := ⟨List.nodup_append.2 ⟨hdk.1, by simp, fun a ha c hc => by simp at hc; subst hc; exact fun e => hfr2 (e ▸ ha)⟩, fun k hk => (List.mem_append.1 hk).elim (hdk.2 k) (fun h => by cases List.mem_singleton.1 h; exact hkk1)⟩
  refine LW.pp (.extract (.t rfl) rfl) (LW.S ?_)
  refine CW.cond_true (.t rfl) ?_
  refine CW.skip (KW.then (CW.block (CW.seq ?_)))
  skip
  refine CW.region ?_
  refine LW.rr (.entry (.t rfl) hNx.entry) rfl ?_
  rintro _ _ ⟨rfl, rfl⟩
  refine LW.pp (.val (v' := .agg #[.func (.func (listFn kk)) #[] #[], .func (.func (ordFn kk)) #[] #[]]) (PEv.extract (.t rfl) rfl) rfl) ?_
  refine LW.rr (.allocA zeroValue76) rfl ?_
  rintro _ w23 ⟨B17, rfl, MB17⟩
  refine LW.E (.storeA sizeOf76 rfl (.t rfl) (.t rfl) eQ MB17.blk rfl) ?_
  intro w24 LB17
  have NB17 := MB17.set LB17
  clear LB17 MB17
  have eB17 := NB17.at_
  have zB17 := NB17.size
  replace hS := hS.addB NB17
  change Wx.Sep _ _ _ [_, _, _, _, _, _] at hS
  refine LW.T ?_
  refine CW.free 7 [.eq (.pointer (some ⟨B17, 0, none⟩)), .eq (.func (.func (listFn kk)) #[] #[]), .eq (.pointer (some ⟨B11, j, none⟩)), .eq (.pointer (some ⟨B11, j, none⟩)), .eq (v), .eq (.pointer (some ⟨B17, 1, none⟩)), .eq (.func (.func (ordFn kk)) #[] #[])] [86, 88] kQ rfl kQ kQ kQ kQ kQ kQ kQ ⟨PhU.eq _, PhU.eq _, PhU.eq _, PhU.eq _, PhU.eq _, PhU.eq _, PhU.eq _, trivial⟩ ?_ ?_
  ·intro W hU0
   have hU := (Up.drew w24).trans hU0
   refine aC ⟨rfl, TU.p (.fA 0 underlying76 rfl sizeOf73 rfl) rfl⟩ ?_
   refine aC ⟨rfl, TU.p (.ld isAgg73 rfl (((hS.blk 5 rfl).up hU).celln rfl)) rfl⟩ ?_
   refine aC ⟨rfl, TU.c (enter_callv (.t rfl) (.cons (.t rfl) .nil) (list_en kk hk1 hk2)) (list_any kk hk1 hk2 B11 _) (by rintro _ W1 ⟨rfl, u⟩; exact ⟨u, by rw [hj]; rfl⟩)⟩ ?_
   refine aC ⟨rfl, TU.p (.nilCheck (.t rfl)) rfl⟩ ?_
   refine aC ⟨rfl, TU.p (.ld isAgg23 rfl (((hS.blk 2 rfl).up hU).cell (by simpa using hvj))) rfl⟩ ?_
   refine aC ⟨rfl, TU.p (.fA 1 underlying76 rfl sizeOf74 rfl) rfl⟩ ?_
   refine aC ⟨rfl, TU.p (.ld isAgg74 rfl (((hS.blk 5 rfl).up hU).celln rfl)) rfl⟩ ?_
   exact allL.nil
  intro w25 g hU0 hg
  have hU := (Up.drew w24).trans hU0
  have zw25 := hU.size
  replace hS := hS.up hU
  have e86 : g 86 = v := hg 4 _ 86 cQ rfl rfl
  have e88 : g 88 = .func (.func (ordFn kk)) #[] #[] := hg 6 _ 88 cQ rfl rfl
  change LW _ _ _ _ _ _ _ _ ((86, .eq (g 86)) :: (88, .eq (g 88)) :: _) _
  rw [e86, e88]
  refine LW.K (eC (.u rfl rfl) (en34)) rfl (sorted_any (ordFn kk) (ordK kk) (ord_en kk hk1 hk2) (fun W x => ord_any kk hk1 hk2 x W) v (lstAt dn ds j) _ (lists_own (hS.get 4 rfl) hvj (byK_get _ _ hj11)) (by have := lst_len dn ds j; omega)) ?_
  rintro _ w26 ⟨rfl, hSo⟩
  replace hS := hS.stp 4 rfl (aAnd_stp (hS.get 4 rfl) (lists_get hvj (byK_get _ _ hj11)) hSo)
  change Wx.Sep _ _ _ [_, _, _, _, _, _] at hS
  rw [lists_set, set_same hvj, hkk2] at hS
  refine LW.nil (KW.inBlock (KW.round ?_))
  exact ⟨dn ++ [kk], ⟨hdk2, by rw [hkk2, ← byK_sort hj11 (by rw [← hkk2]; exact hfr2)]; exact hS.take 5⟩, ⟨rfl, rfl, rfl, trivial⟩, by have := eleven_lt hdk hkk1 hfr2; simp; omega⟩
 skip
 have zw18 := hNx.size
 replace hS := hS.stp 1 rfl (Ms.stp_next hNx)
 change Wx.Sep _ _ _ [_, _, _, _, _] at hS
 obtain ⟨⟨kx, x⟩, hmem0, he0⟩ := List.mem_map.1 hNx.mem
 cases he0
 obtain ⟨hkx, hxv⟩ := hMo _ hmem0
 dsimp only at hkx hxv
 subst hkx
 have hmem := hmem0
 have hfr := hNx.fresh
 have hk12 : 1 ≤ x.Kind ∧ x.Kind ≤ 11 := valid_kind hxv
 have hds2 : ∀ f ∈ ds ++ [x], (keyB f, f) ∈ M := fun f hf => (List.mem_append.1 hf).elim (hds f) (fun h => by cases List.mem_singleton.1 h; exact hmem)
 have hdn2 : ((ds ++ [x]).map keyB).Nodup := nodup_snoc hdn hfr
 obtain ⟨j, hj⟩ : ∃ j, j = (x.Kind - 1).toNat := ⟨_, rfl⟩
 have hj11 : j < 11 := by omega
 have hkj : x.Kind = ((j + 1 : Nat) : Int) := by omega
 have hdl := nodup_le hds hdn
 have hdl2 := nodup_lt hds hdn hmem hfr
 refine LW.pp (.extract (.t rfl) rfl) (LW.S ?_)
 refine CW.cond_true (.t rfl) ?_
 refine CW.skip (KW.then (CW.block (CW.S ?_)))
 refine LW.rr (Ms.REv.entry (.t rfl) hNx.entry) rfl ?_
 rintro _ _ ⟨rfl, rfl⟩
 refine LW.pp (.extract (.t rfl) rfl) ?_
 refine LW.rr (.allocA zeroValue36) rfl ?_
 rintro _ w27 ⟨B14, rfl, MB14⟩
 refine LW.E (.storeA sizeOf36 rfl (.t rfl) (.t rfl) eQ MB14.blk rfl) ?_
 intro w28 LB14
 have NB14 := MB14.set LB14
 clear LB14 MB14
 have eB14 := NB14.at_
 have zB14 := NB14.size
 replace hS := hS.addB NB14
 change Wx.Sep _ _ _ [_, _, _, _, _, _] at hS
 refine LW.S ?_
 cases hq16 : x.Gone with
 | true =>
  have hgn := hq16
  refine CW.region ?_
  refine LW.pp (.fA 4 underlying36 rfl sizeOf4 rfl) ?_
  refine LW.pp (.ld isAgg4 rfl ((hS.blk 5 rfl).celln rfl)) ?_
  refine LW.pp (.fa (PEv.not (.t rfl)) (by rw [hq16]; rfl)) ?_
  refine LW.T ?_
  refine CW.cond_false (.t rfl) ?_
  refine CW.skip (KW.inBlock (KW.round ?_))
  first | exact ⟨(ds ++ [x], vs.set j v74), ⟨hds2, hdn2, by show (vs.set j v74).length = 11; rw [List.length_set]; exact hvl, by first | (rw [byK_add hgn hj11 hkj, ← lists_set, List.map_append]; exact hS.take 5) | (rw [byK_gone hgn, List.map_append]; exact hS.take 5)⟩, ⟨rfl, rfl, rfl, rfl, trivial⟩, by show M.length - (ds ++ [x]).length < M.length - ds.length; have := nodup_lt hds hdn hmem hfr; simp; omega⟩ | exact ⟨(ds ++ [x], vs), ⟨hds2, hdn2, hvl, by first | (rw [byK_add hgn hj11 hkj, ← lists_set, List.map_append]; exact hS.take 5) | (rw [byK_gone hgn, List.map_append]; exact hS.take 5)⟩, ⟨rfl, rfl, rfl, rfl, trivial⟩, by show M.length - (ds ++ [x]).length < M.length - ds.length; have := nodup_lt hds hdn hmem hfr; simp; omega⟩
 | false =>
  have hgn := hq16
  refine CW.region ?_
  refine LW.pp (.fA 4 underlying36 rfl sizeOf4 rfl) ?_
  refine LW.pp (.ld isAgg4 rfl ((hS.blk 5 rfl).celln rfl)) ?_
  refine LW.pp (.tr (PEv.not (.t rfl)) (by rw [hq16]; rfl)) ?_
  refine LW.T ?_
  refine CW.cond_true (.t rfl) ?_
  refine CW.S (LW.M rfl ?_)
  refine LW.pp (.fA 0 underlying36 rfl sizeOf3 rfl) ?_
  refine LW.pp (.ld isAgg3 rfl ((hS.blk 5 rfl).celln rfl)) ?_
  refine LW.pp (.val (v' := .agg #[.func (.func (listFn x.Kind)) #[] #[], .func (.func (ordFn x.Kind)) #[] #[]]) (PEv.lookupYes (ok := false) underlying70 underlying3 (.t rfl) (.t rfl) (hS.get 3 rfl) (keyT_mem.2 ⟨hk12.1, (show x.Kind ≤ ((11 : Nat) : Int) from by omega), rfl⟩)) rfl) ?_
  refine LW.pp (.field1 (off := 0) underlying76 rfl rfl isAgg73 (.t rfl) rfl) ?_
  refine LW.K (enter_callv (.t rfl) (.cons (.t rfl) .nil) (list_en x.Kind hk12.1 hk12.2)) rfl (list_any x.Kind hk12.1 hk12.2 B11 _) ?_
  rintro _ w29 ⟨rfl, uw29⟩
  have zw29 := uw29.size
  replace hS := hS.up uw29
  rw [← hj]
  refine LW.A rfl (LW.T ?_)
  obtain ⟨v, hvj⟩ := getElem?_of_lt (xs := vs) (i := j) oQ
  refine CW.draws_heavy 6 (fun v w'' => Wx.Sep no w0 w'' [aBlk B4 #[.slice none 0 0, .slice none 0 0, .slice none 0 0, .slice none 0 0, .slice none 0 0, .slice none 0 0, .slice none 0 0, .slice none 0 0, .slice none 0 0, .slice none 0 0, .slice none 0 0] 38, Ms.aIRng B18 r54 (encM M) (ds.map keyB ++ [keyB x]), aBlk B11 vs.toArray 38, aIMap bk (keyT KdV 11), aAnd ((lists 36 19 Fact.cells vs (byK [] ds)).set j (aOwn 36 19 Fact.cells v (lstAt [] ds j ++ [x]))), aBlk B14 x.cells 36]) kQ kQ kQ kQ kQ kQ rfl rfl rfl rfl rfl ?_
  refine HW.pp (.move (.t rfl)) ?_
  refine HW.pp (.move (.t rfl)) ?_
  refine HW.pp (.nilCheck (.t rfl)) ?_
  refine HW.pp (.ld isAgg23 rfl ((hS.blk 2 rfl).cell (by simpa using hvj))) ?_
  refine HW.pp (.la isAgg36 sizeOf36 rfl ((hS.blk 5 rfl).agg)) ?_
  refine HW.r (p := fun v w => Sl w v 19 (Fact.cells) [x]) (fun _ _ _ h u => Sl.up h u) rfl (fun w hu a ha => let ⟨v, w', h1, h2⟩ := REv.buildSlice (xs := [x]) (enc := Fact.cells) (mk := fun f : Fact => .agg f.cells) underlying23 sizeOf36 zeroValue36 rfl (Nat.le_of_ble_eq_true rfl) (fun _ => rfl) (fun _ => rfl) (.cons (.t rfl) .nil) rfl a ha; ⟨v, w', h1, h2.q⟩) rfl ?_
  refine HW.nil ⟨fun a w' hu ha => ?_, ?_⟩
  ·exact (REv.open (d := 73) (p := fun v w => Sl w v 19 Fact.cells [x]) rfl fun vv hv => (REv.appendF (bytes := 160) (i := Tryz.t36) underlying23 kQ rfl rfl rfl rfl cQ (fun _ => rfl) Fact.one (.t rfl) (.t rfl) (lists_own ((hS.up hu).get 4 rfl) hvj (byK_get _ _ hj11)) hv (by have := lst_len [] ds j; simp only [List.length_cons, List.length_nil, maxLen]; omega) (by have := lst_len [] ds j; simp only [List.length_cons, List.length_nil]; omega)).mono fun v' w'' h => (hS.up hu).stp 4 rfl (aAnd_stp ((hS.up hu).get 4 rfl) (lists_get hvj (byK_get _ _ hj11)) h)).y ha
  intro v74 w30 hS
  have hv1 : v74.oneCell' = true := by
   have h := hS.get 4 rfl
   rw [lists_set] at h
   exact lists_one h (by rw [List.length_set, List.length_set, hvl, byK_len]) v74 (List.mem_of_getElem? (i := j) (by rw [List.getElem?_set_self (by omega)]))
  refine LW.pp (.nilCheck (.t rfl)) ?_
  refine LW.E (.store sizeOf23 (.t rfl) (.t rfl) hv1 (hS.blk 2 rfl) (by simp; omega)) ?_
  intro w31 Nw31
  have zw31 := Nw31.size
  replace hS := hS.putB 2 rfl (by rw [set_arr] at Nw31; exact Nw31)
  change Wx.Sep _ _ _ [_, _, _, _, _, _] at hS
  refine LW.nil (KW.inBlock (KW.round ?_))
  first | exact ⟨(ds ++ [x], vs.set j v74), ⟨hds2, hdn2, by show (vs.set j v74).length = 11; rw [List.length_set]; exact hvl, by first | (rw [byK_add hgn hj11 hkj, ← lists_set, List.map_append]; exact hS.take 5) | (rw [byK_gone hgn, List.map_append]; exact hS.take 5)⟩, ⟨rfl, rfl, rfl, rfl, trivial⟩, by show M.length - (ds ++ [x]).length < M.length - ds.length; have := nodup_lt hds hdn hmem hfr; simp; omega⟩ | exact ⟨(ds ++ [x], vs), ⟨hds2, hdn2, hvl, by first | (rw [byK_add hgn hj11 hkj, ← lists_set, List.map_append]; exact hS.take 5) | (rw [byK_gone hgn, List.map_append]; exact hS.take 5)⟩, ⟨rfl, rfl, rfl, rfl, trivial⟩, by show M.length - (ds ++ [x]).length < M.length - ds.length; have := nodup_lt hds hdn hmem hfr; simp; omega⟩
end Go.Proofs.YtmimclgihlhaeaaGreat
namespace Go.Wx
theorem sortK_perm {α : Type} {key : α → K2} {l s : List α} (h : l.Perm s) (hd : ∀ x ∈ l, ∀ y ∈ l, key x = key y → x = y) : sortK key l = sortK key s := by
 have hs : sameF key l s := fun k => by
   have hp := h.filter (fun x => key x == k)
   cases e : l.filter (fun x => key x == k) with
   | nil => rw [e] at hp; exact hp.symm.eq_nil
   | cons x r =>
     have all : ∀ y ∈ l.filter (fun x => key x == k), y = x := fun y hy => by
       have hx : x ∈ l.filter (fun x => key x == k) := by rw [e]; exact List.mem_cons_self
       rw [List.mem_filter] at hx hy
       exact hd _ hy.1 _ hx.1 ((eq_of_beq hy.2).trans (eq_of_beq hx.2).symm)
     have h1 : l.filter (fun x => key x == k) = List.replicate (l.filter (fun x => key x == k)).length x := List.eq_replicate_iff.2 ⟨rfl, all⟩
     have h2 : s.filter (fun x => key x == k) = List.replicate (l.filter (fun x => key x == k)).length x := List.eq_replicate_iff.2 ⟨hp.length_eq.symm, fun y hy => all y (hp.symm.subset hy)⟩
     rw [h2, ← h1, e]
 have : StS key l (sortK key s) := ⟨(sortK_sts s).ord, hs.trans (sortK_sts s).same⟩
 exact this.eq.symm
theorem key_of_ord {k : Int} {f g : Fact} (hf : validB f = true) (hg : validB g = true) (hkf : f.Kind = k) (hkg : g.Kind = k) (h : ordK k f = ordK k g) : keyB f = keyB g := by
 have hk := valid_kind hf
 rw [hkf] at hk
 unfold keyB keyL
 rw [if_pos hf, if_pos hg, hkf, hkg]
 have hc : k = 1 ∨ k = 2 ∨ k = 3 ∨ k = 4 ∨ k = 5 ∨ k = 6 ∨ k = 7 ∨ k = 8 ∨ k = 9 ∨ k = 10 ∨ k = 11 := by omega
 rcases hc with rfl | rfl | rfl | rfl | rfl | rfl | rfl | rfl | rfl | rfl | rfl
 · replace h : (f.ID, (0 : Int)) = (g.ID, (0 : Int)) := h
   show encIs [1, f.ID] = encIs [1, g.ID]
   rw [(Prod.mk.inj h).1]
 · replace h : (f.ID, (0 : Int)) = (g.ID, (0 : Int)) := h
   show encIs [2, f.ID] = encIs [2, g.ID]
   rw [(Prod.mk.inj h).1]
 · replace h : (f.ID, (0 : Int)) = (g.ID, (0 : Int)) := h
   show encIs [3, f.ID] = encIs [3, g.ID]
   rw [(Prod.mk.inj h).1]
 · replace h : (f.Wafer, f.Time) = (g.Wafer, g.Time) := h
   show encIs [4, f.Wafer, f.Time] = encIs [4, g.Wafer, g.Time]
   rw [(Prod.mk.inj h).1, (Prod.mk.inj h).2]
 · replace h : (f.Product, (0 : Int)) = (g.Product, (0 : Int)) := h
   show encIs [5, f.Product] = encIs [5, g.Product]
   rw [(Prod.mk.inj h).1]
 · replace h : (f.ID, (0 : Int)) = (g.ID, (0 : Int)) := h
   show encIs [6, f.ID] = encIs [6, g.ID]
   rw [(Prod.mk.inj h).1]
 · replace h : (f.ID, (0 : Int)) = (g.ID, (0 : Int)) := h
   show encIs [7, f.ID] = encIs [7, g.ID]
   rw [(Prod.mk.inj h).1]
 · replace h : (f.Other, f.Parties) = (g.Other, g.Parties) := h
   show encIs [8, f.Other, f.Parties] = encIs [8, g.Other, g.Parties]
   rw [(Prod.mk.inj h).1, (Prod.mk.inj h).2]
 · replace h : (f.ID, (0 : Int)) = (g.ID, (0 : Int)) := h
   show encIs [9, f.ID] = encIs [9, g.ID]
   rw [(Prod.mk.inj h).1]
 · replace h : (f.Recipe, f.Time) = (g.Recipe, g.Time) := h
   show encIs [10, f.Recipe, f.Time] = encIs [10, g.Recipe, g.Time]
   rw [(Prod.mk.inj h).1, (Prod.mk.inj h).2]
 replace h : (f.ID, (0 : Int)) = (g.ID, (0 : Int)) := h
 show encIs [11, f.ID] = encIs [11, g.ID]
 rw [(Prod.mk.inj h).1]
theorem fset_keys (m : FMap) (k : List UInt8) (f : Fact) : (fset m k f).map (·.1) = if k ∈ m.map (·.1) then m.map (·.1) else m.map (·.1) ++ [k] := by
 unfold fset
 split
 · rw [List.map_map]
   apply List.map_congr_left
   intro p _
   simp only [Function.comp]
   split
   · rename_i e; exact e.symm
   rfl
 simp
theorem fset_nodup {m : FMap} (h : (m.map (·.1)).Nodup) (k : List UInt8) (f : Fact) : ((fset m k f).map (·.1)).Nodup := by
 rw [fset_keys]
 split
 · exact h
 rename_i hn
 rw [List.nodup_append]
 exact ⟨h, by simp, fun a ha c hc => by cases List.mem_singleton.1 hc; exact fun e => hn (e ▸ ha)⟩
theorem bestStep_nodup {m : FMap} (h : (m.map (·.1)).Nodup) (day : Int) (f : Fact) : ((bestStep day m f).map (·.1)).Nodup := by
 unfold bestStep
 split
 · exact h
 split
 · exact fset_nodup h _ _
 split
 · exact fset_nodup h _ _
 exact h
theorem best_nodup (l : List Fact) (day : Int) : ((bestL l day).map (·.1)).Nodup := by
 have : ∀ (l : List Fact) (m : FMap), (m.map (·.1)).Nodup → ((l.foldl (bestStep day) m).map (·.1)).Nodup := by
   intro l
   induction l with
   | nil => exact fun m h => h
   | cons x l ih => exact fun m h => ih _ (bestStep_nodup h day x)
 exact this l [] List.nodup_nil
theorem nodup_fst {m : FMap} (h : (m.map (·.1)).Nodup) {k : List UInt8} {f g : Fact} (hf : (k, f) ∈ m) (hg : (k, g) ∈ m) : f = g := by
 induction m with
 | nil => cases hf
 | cons p m ih =>
   rw [List.map_cons, List.nodup_cons] at h
   rcases List.mem_cons.1 hf with e | hf' <;> rcases List.mem_cons.1 hg with e' | hg'
   · rw [← e'] at e; cases e; rfl
   · exact absurd (List.mem_map.2 ⟨_, hg', by rw [← e]⟩) h.1
   · exact absurd (List.mem_map.2 ⟨_, hf', by rw [← e']⟩) h.1
   exact ih h.2 hf' hg'
def factsM (m : FMap) : List Fact := m.map (·.2)
theorem factsM_mem {m : FMap} (h : MOk m) {f : Fact} : f ∈ factsM m ↔ (keyB f, f) ∈ m := by
 constructor
 · intro hf
   obtain ⟨⟨k, g⟩, hp, e⟩ := List.mem_map.1 hf
   have e : g = f := e
   subst e
   have := (h _ hp).1
   have this : k = keyB g := this
   rw [← this]; exact hp
 exact fun hf => List.mem_map.2 ⟨_, hf, rfl⟩
theorem factsM_keys {m : FMap} (h : MOk m) : (factsM m).map keyB = m.map (·.1) := by
 unfold factsM
 rw [List.map_map]
 apply List.map_congr_left
 intro p hp
 exact (h p hp).1.symm
theorem nodup_of_map {α β : Type} {f : α → β} : ∀ {l : List α}, (l.map f).Nodup → l.Nodup
 | [], _ => List.nodup_nil
 | x :: l, h => by
   rw [List.map_cons, List.nodup_cons] at h
   exact List.nodup_cons.2 ⟨fun hm => h.1 (List.mem_map.2 ⟨x, hm, rfl⟩), nodup_of_map h.2⟩
theorem perm_of_mem {α : Type} {l s : List α} (hl : l.Nodup) (hs : s.Nodup) (h : ∀ x, x ∈ l ↔ x ∈ s) : l.Perm s := (List.perm_ext_iff_of_nodup hl hs).2 h
theorem best_perm {ds : List Fact} {m : FMap} (hm : MOk m) (hn : (m.map (·.1)).Nodup) (h : ∀ f ∈ ds, (keyB f, f) ∈ m) (hp : (ds.map keyB).Perm (m.map (·.1))) : ds.Perm (factsM m) := by
 refine perm_of_mem (nodup_of_map (f := keyB) (hp.nodup_iff.2 hn)) (nodup_of_map (f := keyB) (by rw [factsM_keys hm]; exact hn)) fun x => ?_
 rw [factsM_mem hm]
 refine ⟨h x, fun hx => ?_⟩
 obtain ⟨y, hy, e⟩ := List.mem_map.1 (hp.symm.subset (List.mem_map.2 ⟨_, hx, rfl⟩))
 have e : keyB y = keyB x := e
 have := h y hy
 rw [e] at this
 rw [nodup_fst hn hx this]; exact hy
theorem mem_of_key {m : FMap} (hm : MOk m) (hn : (m.map (·.1)).Nodup) {f g : Fact} (hf : f ∈ factsM m) (hg : g ∈ factsM m) (e : keyB f = keyB g) : f = g := by
 rw [factsM_mem hm] at hf hg
 rw [e] at hf
 exact nodup_fst hn hf hg
theorem lst_perm {m : FMap} (hm : MOk m) (hn : (m.map (·.1)).Nodup) {ds : List Fact} (h : ds.Perm (factsM m)) (dn : List Int) (j : Nat) (hj : ((j + 1 : Nat) : Int) ∈ dn) : lstAt dn ds j = lstAt dn (factsM m) j := by
 unfold lstAt
 rw [if_pos hj, if_pos hj]
 refine sortK_perm (h.filter _) fun x hx y hy e => ?_
 rw [List.mem_filter] at hx hy
 have hxm := h.subset hx.1
 have hym := h.subset hy.1
 have vx := (hm _ ((factsM_mem hm).1 hxm)).2
 have vy := (hm _ ((factsM_mem hm).1 hym)).2
 simp only [Bool.and_eq_true, decide_eq_true_eq] at hx hy
 exact mem_of_key hm hn hxm hym (key_of_ord vx vy hx.2.2 hy.2.2 e)
def ofB (l : List Fact) (day : Int) : Base := baseL (factsM (bestL l day))
theorem ofB_eq {ds : List Fact} {l : List Fact} {day : Int} (h : ∀ f ∈ ds, (keyB f, f) ∈ bestL l day) (hp : (ds.map keyB).Perm ((bestL l day).map (·.1))) : baseL ds = ofB l day := by
 have hm := (best_ok day l).1
 have hn := best_nodup l day
 have h1 := best_perm hm hn h hp
 unfold ofB baseL
 rw [lst_perm hm hn h1 [1] 0 cQ, lst_perm hm hn h1 [2] 1 cQ, lst_perm hm hn h1 [3] 2 cQ, lst_perm hm hn h1 [4] 3 cQ, lst_perm hm hn h1 [5] 4 cQ, lst_perm hm hn h1 [6] 5 cQ, lst_perm hm hn h1 [7] 6 cQ, lst_perm hm hn h1 [8] 7 cQ, lst_perm hm hn h1 [9] 8 cQ, lst_perm hm hn h1 [10] 9 cQ, lst_perm hm hn h1 [11] 10 (by decide)]
end Go.Wx
namespace Go.Proofs.YtmimclgihlhaeaaGreat
open Go.Proofs.Tryz
open Go.Wx Go.RowKit
theorem Of_any (ad : Option Addr) (cp : Nat) (l : List Fact) (day : Int) (w : World) (hE0 : Els w ad 19 Fact.cells l) (hl : l.length ≤ 100000) : Ret Tryz.prog 13 #[.slice ad l.length cp, vi day] w fun r w' => ∃ bc, r = .agg bc ∧ BaseC w' bc (ofB l day) ∧ Up w w' :=
 (Of_walk ad cp l day w hE0 hl).mono fun _ _ ⟨bc, _, e, hB, h1, h2, _, _, u⟩ => ⟨bc, e, ofB_eq h1 h2 ▸ hB, u⟩
end Go.Proofs.YtmimclgihlhaeaaGreat
end
