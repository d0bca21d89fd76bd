import Derived.Test.YtmimclgihlhaeaaGreatKR79
section
namespace Go.Wx
open Go.RowKit
def Cf (b : Nat) (kv : List (Int × Value)) : Asr := ⟨(· = b), fun w => IMap w b kv, fun _ _ h k _ => by
 have := h.lt
 obtain ⟨es, clock, h1, h2⟩ := h
 exact ⟨es, clock, (k b rfl this).trans h1, h2⟩, fun _ h _ e => by rw [e]; exact h.lt⟩
def Fq (b r : Nat) (kv : List (Int × Value)) (done : List Int) : Asr := ⟨fun i => i = b ∨ i = r, fun w => IRng w b r kv done, fun _ _ h k _ => by
 obtain ⟨es, clock, since, seen, c0, h1, h2, h3, h4, h5⟩ := h
 exact ⟨es, clock, since, seen, c0, (k b (.inl rfl) (lt_of_block h1)).trans h1, h2, h3, (k r (.inr rfl) (lt_of_block h4)).trans h4, h5⟩, fun _ h i e => by
 obtain ⟨es, clock, since, seen, c0, h1, h2, h3, h4, h5⟩ := h
 rcases e with rfl | rfl
 · exact lt_of_block h1
 exact lt_of_block h4⟩
theorem Gq {b r : Nat} {kv : List (Int × Value)} {w w' : World} (h : IRng w' b r kv []) (u : Up w w') (hr : r = w.heap.size) : Stp (Cf b kv) (Fq b r kv []) w w' := ⟨u.fr _, h, fun i hi => hi.elim (fun e => .inl e) (fun e => .inr oQ)⟩
theorem H9 {P : Program} {b r : Nat} {kv : List (Int × Value)} {done : List Int} {k : Int} {u : Value} {w w' : World} (h : NextTo P w w' b r kv done k u) : Stp (Fq b r kv done) (Fq b r kv (done ++ [k])) w w' := ⟨h.sto.fr.mono (fun i (e : i = r) => .inr e), h.rng, fun _ h => .inl h⟩
namespace Ms
def Cf (b : Nat) (kv : List (List UInt8 × Value)) : Asr := ⟨(· = b), fun w => Ms.IMap w b kv, fun _ _ h k _ => by
 have := h.lt
 obtain ⟨es, clock, h1, h2⟩ := h
 exact ⟨es, clock, (k b rfl this).trans h1, h2⟩, fun _ h _ e => by rw [e]; exact h.lt⟩
def Fq (b r : Nat) (kv : List (List UInt8 × Value)) (done : List (List UInt8)) : Asr := ⟨fun i => i = b ∨ i = r, fun w => Ms.IRng w b r kv done, fun _ _ h k _ => by
 obtain ⟨es, clock, since, seen, c0, h1, h2, h3, h4, h5⟩ := h
 exact ⟨es, clock, since, seen, c0, (k b (.inl rfl) (lt_of_block h1)).trans h1, h2, h3, (k r (.inr rfl) (lt_of_block h4)).trans h4, h5⟩, fun _ h i e => by
 obtain ⟨es, clock, since, seen, c0, h1, h2, h3, h4, h5⟩ := h
 rcases e with rfl | rfl
 · exact lt_of_block h1
 exact lt_of_block h4⟩
theorem Jy {b : Nat} {kv kv' : List (List UInt8 × Value)} {w w' : World} (h : Ms.IMap w' b kv') (k : Sto b w w') : Stp (Cf b kv) (Cf b kv') w w' := ⟨k.fr, h, fun _ h => .inl h⟩
theorem Gq {b r : Nat} {kv : List (List UInt8 × Value)} {w w' : World} (h : Ms.IRng w' b r kv []) (u : Up w w') (hr : r = w.heap.size) : Stp (Cf b kv) (Fq b r kv []) w w' := ⟨u.fr _, h, fun i hi => hi.elim (fun e => .inl e) (fun e => .inr oQ)⟩
theorem H9 {P : Program} {b r : Nat} {kv : List (List UInt8 × Value)} {done : List (List UInt8)} {k : List UInt8} {u : Value} {w w' : World} (h : Ms.NextTo P w w' b r kv done k u) : Stp (Fq b r kv done) (Fq b r kv (done ++ [k])) w w' := ⟨h.sto.fr.mono (fun i (e : i = r) => .inr e), h.rng, fun _ h => .inl h⟩
end Ms
theorem Kq {As : List Asr} {A A' : Asr} {w w' : World} {j : Nat} (h : (Db As).holds w) (hj : As[j]? = some A) (s : Stp A A' w w') : Stp (Db As) (Db (As.set j A')) w w' := by
 have := (Oi h).Dh j hj s
 rw [← List.append_nil (As.set j A')] at this
 exact Jq this
theorem Xc {α β : Type} (a : α) (b : β) : ∀ (l : List α) (r : List β) (j : Nat), (l.set j a).zip (r.set j b) = (l.zip r).set j (a, b)
 | [], r, j => by simp
 | x :: l, [], j => by cases j <;> simp
 | x :: l, y :: r, 0 => rfl
 | x :: l, y :: r, j + 1 => by
   rw [List.set_cons_succ, List.set_cons_succ, List.zip_cons_cons, List.zip_cons_cons, List.set_cons_succ, Xc a b l r j]
def lists {α : Type} (e k : Nat) (enc : α → Array Value) (vs : List Value) (xss : List (List α)) : List Asr := (vs.zip xss).map fun p => Al e k enc p.1 p.2
theorem Li {α : Type} {e k : Nat} {enc : α → Array Value} {vs : List Value} {xss : List (List α)} {j : Nat} {v : Value} {xs : List α} (hv : vs[j]? = some v) (hx : xss[j]? = some xs) : (lists e k enc vs xss)[j]? = some (Al e k enc v xs) := by
 unfold lists
 rw [List.getElem?_map]
 have : (vs.zip xss)[j]? = some (v, xs) := by rw [List.getElem?_zip_eq_some]; exact ⟨hv, hx⟩
 rw [this]; rfl
theorem Om {α : Type} {e k : Nat} {enc : α → Array Value} {vs : List Value} {xss : List (List α)} {j : Nat} {v : Value} {xs : List α} : (lists e k enc vs xss).set j (Al e k enc v xs) = lists e k enc (vs.set j v) (xss.set j xs) := by
 unfold lists
 have : (vs.set j v).zip (xss.set j xs) = (vs.zip xss).set j (v, xs) := Xc v xs vs xss j
 rw [this, List.map_set]
theorem Jd {α : Type} {e k : Nat} {enc : α → Array Value} {vs : List Value} {xss : List (List α)} {w : World} {j : Nat} {v : Value} {xs : List α} (h : (Db (lists e k enc vs xss)).holds w) (hv : vs[j]? = some v) (hx : xss[j]? = some xs) : OwnS w 0 e k enc v xs := h.1 _ (List.mem_of_getElem? (Li hv hx))
theorem Tp {α : Type} {e k : Nat} {enc : α → Array Value} {vs : List Value} {xss : List (List α)} {w : World} (h : (Db (lists e k enc vs xss)).holds w) (hl : vs.length = xss.length) : ∀ v ∈ vs, v.oneCell' = true := fun v hv => by
 obtain ⟨j, hj⟩ := List.mem_iff_getElem?.1 hv
 have hlt := (List.getElem?_eq_some_iff.1 hj).1
 obtain ⟨xs, hx⟩ := Ac (xs := xss) (i := j) oQ
 exact (Jd h hj hx).one
theorem gF {α : Type} (e k : Nat) (enc : α → Array Value) (n : Nat) (w : World) : (Db (lists e k enc (List.replicate n (.slice none 0 0)) (List.replicate n ([] : List α)))).holds w ∧ ∀ i, ¬ (Db (lists e k enc (List.replicate n (.slice none 0 0)) (List.replicate n ([] : List α)))).foot i := by
 have key : ∀ A ∈ lists e k enc (List.replicate n (.slice none 0 0)) (List.replicate n ([] : List α)), A = Al e k enc (.slice none 0 0) [] := fun A hA => by
   unfold lists at hA
   obtain ⟨⟨v, xs⟩, hp, rfl⟩ := List.mem_map.1 hA
   have := List.of_mem_zip hp
   rw [List.eq_of_mem_replicate this.1, List.eq_of_mem_replicate this.2]
 refine ⟨⟨fun A hA => by rw [key A hA]; exact OwnS.nil _ _ _ _ _, List.pairwise_iff_getElem.2 fun i j hi hj _ x hx => by
   rw [key _ (List.getElem_mem hi)] at hx; cases hx⟩, fun i ⟨A, hA, hi⟩ => by rw [key A hA] at hi; cases hi⟩
end Go.Wx
end
section
namespace Go.Wx
def Kr (k : Int) (f : Fact) : K2 := match k with
 | 4 => (f.Wafer, f.Time)
 | 5 => (f.Product, 0)
 | 8 => (f.Other, f.Parties)
 | 10 => (f.Recipe, f.Time)
 | _ => (f.ID, 0)
end Go.Wx
namespace Go.Proofs.YtmimclgihlhaeaaGreat
open Go.Proofs.Tryz
open Go.Wx Go.RowKit
def Mo (k : Int) : Nat := match k with
 | 1 => 69
 | 2 => 71
 | 3 => 72
 | 4 => 73
 | 5 => 75
 | 6 => 77
 | 7 => 78
 | 8 => 79
 | 9 => 81
 | 10 => 82
 | 11 => 84
 | _ => 0
def Nk (k : Int) : Nat := match k with
 | 1 => 70
 | 2 => 70
 | 3 => 70
 | 4 => 74
 | 5 => 76
 | 6 => 70
 | 7 => 70
 | 8 => 80
 | 9 => 70
 | 10 => 83
 | 11 => 70
 | _ => 0
def Vt (k : Int) : Go.Value := .agg #[.func (.func (Mo k)) #[] #[], .func (.func (Nk k)) #[] #[]]
theorem tZ (B : Nat) (w : World) : Ret Tryz.prog 69 #[.pointer (some ⟨B, 0, none⟩)] w fun r w' => r = .pointer (some ⟨B, 0, none⟩) ∧ Up w w' := by
 have hW := Up.refl w
 refine cS (n := 6) (m := 9) func69 rfl rfl rfl (CW.S (LW.C (LW.S (CW.region (LW.M rfl (LW.pp (.nilCheck (.t rfl)) (LW.pp (.fA 0 underlying38 rfl sizeOf23 rfl) (LW.A rfl (LW.T (CW.ret (Ae rfl rfl ⟨_, rfl, ?_⟩)))))))))))
 exact ⟨rfl, hW⟩
theorem uA (B : Nat) (w : World) : Ret Tryz.prog 71 #[.pointer (some ⟨B, 0, none⟩)] w fun r w' => r = .pointer (some ⟨B, 1, none⟩) ∧ Up w w' := by
 have hW := Up.refl w
 refine cS (n := 6) (m := 9) func71 rfl rfl rfl (CW.S (LW.C (LW.S (CW.region (LW.M rfl (LW.pp (.nilCheck (.t rfl)) (LW.pp (.fA 1 underlying38 rfl sizeOf23 rfl) (LW.A rfl (LW.T (CW.ret (Ae rfl rfl ⟨_, rfl, ?_⟩)))))))))))
 exact ⟨rfl, hW⟩
theorem uB (B : Nat) (w : World) : Ret Tryz.prog 72 #[.pointer (some ⟨B, 0, none⟩)] w fun r w' => r = .pointer (some ⟨B, 2, none⟩) ∧ Up w w' := by
 have hW := Up.refl w
 refine cS (n := 6) (m := 9) func72 rfl rfl rfl (CW.S (LW.C (LW.S (CW.region (LW.M rfl (LW.pp (.nilCheck (.t rfl)) (LW.pp (.fA 2 underlying38 rfl sizeOf23 rfl) (LW.A rfl (LW.T (CW.ret (Ae rfl rfl ⟨_, rfl, ?_⟩)))))))))))
 exact ⟨rfl, hW⟩
theorem uC (B : Nat) (w : World) : Ret Tryz.prog 73 #[.pointer (some ⟨B, 0, none⟩)] w fun r w' => r = .pointer (some ⟨B, 3, none⟩) ∧ Up w w' := by
 have hW := Up.refl w
 refine cS (n := 6) (m := 9) func73 rfl rfl rfl (CW.S (LW.C (LW.S (CW.region (LW.M rfl (LW.pp (.nilCheck (.t rfl)) (LW.pp (.fA 3 underlying38 rfl sizeOf23 rfl) (LW.A rfl (LW.T (CW.ret (Ae rfl rfl ⟨_, rfl, ?_⟩)))))))))))
 exact ⟨rfl, hW⟩
theorem uD (B : Nat) (w : World) : Ret Tryz.prog 75 #[.pointer (some ⟨B, 0, none⟩)] w fun r w' => r = .pointer (some ⟨B, 4, none⟩) ∧ Up w w' := by
 have hW := Up.refl w
 refine cS (n := 6) (m := 9) func75 rfl rfl rfl (CW.S (LW.C (LW.S (CW.region (LW.M rfl (LW.pp (.nilCheck (.t rfl)) (LW.pp (.fA 4 underlying38 rfl sizeOf23 rfl) (LW.A rfl (LW.T (CW.ret (Ae rfl rfl ⟨_, rfl, ?_⟩)))))))))))
 exact ⟨rfl, hW⟩
theorem uE (B : Nat) (w : World) : Ret Tryz.prog 77 #[.pointer (some ⟨B, 0, none⟩)] w fun r w' => r = .pointer (some ⟨B, 5, none⟩) ∧ Up w w' := by
 have hW := Up.refl w
 refine cS (n := 6) (m := 9) func77 rfl rfl rfl (CW.S (LW.C (LW.S (CW.region (LW.M rfl (LW.pp (.nilCheck (.t rfl)) (LW.pp (.fA 5 underlying38 rfl sizeOf23 rfl) (LW.A rfl (LW.T (CW.ret (Ae rfl rfl ⟨_, rfl, ?_⟩)))))))))))
 exact ⟨rfl, hW⟩
theorem uF (B : Nat) (w : World) : Ret Tryz.prog 78 #[.pointer (some ⟨B, 0, none⟩)] w fun r w' => r = .pointer (some ⟨B, 6, none⟩) ∧ Up w w' := by
 have hW := Up.refl w
 refine cS (n := 6) (m := 9) func78 rfl rfl rfl (CW.S (LW.C (LW.S (CW.region (LW.M rfl (LW.pp (.nilCheck (.t rfl)) (LW.pp (.fA 6 underlying38 rfl sizeOf23 rfl) (LW.A rfl (LW.T (CW.ret (Ae rfl rfl ⟨_, rfl, ?_⟩)))))))))))
 exact ⟨rfl, hW⟩
theorem uG (B : Nat) (w : World) : Ret Tryz.prog 79 #[.pointer (some ⟨B, 0, none⟩)] w fun r w' => r = .pointer (some ⟨B, 7, none⟩) ∧ Up w w' := by
 have hW := Up.refl w
 refine cS (n := 6) (m := 9) func79 rfl rfl rfl (CW.S (LW.C (LW.S (CW.region (LW.M rfl (LW.pp (.nilCheck (.t rfl)) (LW.pp (.fA 7 underlying38 rfl sizeOf23 rfl) (LW.A rfl (LW.T (CW.ret (Ae rfl rfl ⟨_, rfl, ?_⟩)))))))))))
 exact ⟨rfl, hW⟩
theorem uH (B : Nat) (w : World) : Ret Tryz.prog 81 #[.pointer (some ⟨B, 0, none⟩)] w fun r w' => r = .pointer (some ⟨B, 8, none⟩) ∧ Up w w' := by
 have hW := Up.refl w
 refine cS (n := 6) (m := 9) func81 rfl rfl rfl (CW.S (LW.C (LW.S (CW.region (LW.M rfl (LW.pp (.nilCheck (.t rfl)) (LW.pp (.fA 8 underlying38 rfl sizeOf23 rfl) (LW.A rfl (LW.T (CW.ret (Ae rfl rfl ⟨_, rfl, ?_⟩)))))))))))
 exact ⟨rfl, hW⟩
theorem qH (B : Nat) (w : World) : Ret Tryz.prog 82 #[.pointer (some ⟨B, 0, none⟩)] w fun r w' => r = .pointer (some ⟨B, 9, none⟩) ∧ Up w w' := by
 have hW := Up.refl w
 refine cS (n := 6) (m := 9) func82 rfl rfl rfl (CW.S (LW.C (LW.S (CW.region (LW.M rfl (LW.pp (.nilCheck (.t rfl)) (LW.pp (.fA 9 underlying38 rfl sizeOf23 rfl) (LW.A rfl (LW.T (CW.ret (Ae rfl rfl ⟨_, rfl, ?_⟩)))))))))))
 exact ⟨rfl, hW⟩
theorem qI (B : Nat) (w : World) : Ret Tryz.prog 84 #[.pointer (some ⟨B, 0, none⟩)] w fun r w' => r = .pointer (some ⟨B, 10, none⟩) ∧ Up w w' := by
 have hW := Up.refl w
 refine cS (n := 6) (m := 9) func84 rfl rfl rfl (CW.S (LW.C (LW.S (CW.region (LW.M rfl (LW.pp (.nilCheck (.t rfl)) (LW.pp (.fA 10 underlying38 rfl sizeOf23 rfl) (LW.A rfl (LW.T (CW.ret (Ae rfl rfl ⟨_, rfl, ?_⟩)))))))))))
 exact ⟨rfl, hW⟩
theorem Xd (k : Int) (h1 : 1 ≤ k) (h2 : k ≤ 11) (B : Nat) (w : World) : Ret Tryz.prog (Mo k) #[.pointer (some ⟨B, 0, none⟩)] w fun r w' => r = .pointer (some ⟨B, (k - 1).toNat, none⟩) ∧ Up w w' := by
 obtain rfl | rfl | rfl | rfl | rfl | rfl | rfl | rfl | rfl | rfl | rfl : k = 1 ∨ k = 2 ∨ k = 3 ∨ k = 4 ∨ k = 5 ∨ k = 6 ∨ k = 7 ∨ k = 8 ∨ k = 9 ∨ k = 10 ∨ k = 11 := by omega
 · exact tZ B w
 · exact uA B w
 · exact uB B w
 · exact uC B w
 · exact uD B w
 · exact uE B w
 · exact uF B w
 · exact uG B w
 · exact uH B w
 · exact qH B w
 exact qI B w
theorem dB (k : Int) (h1 : 1 ≤ k) (h2 : k ≤ 11) : ∀ (args : Array Go.Value) (w : World), (callFunc (Mo k) args).run Tryz.prog w = .ok (.enter (Mo k) args) w := by
 obtain rfl | rfl | rfl | rfl | rfl | rfl | rfl | rfl | rfl | rfl | rfl : k = 1 ∨ k = 2 ∨ k = 3 ∨ k = 4 ∨ k = 5 ∨ k = 6 ∨ k = 7 ∨ k = 8 ∨ k = 9 ∨ k = 10 ∨ k = 11 := by omega
 · exact BT
 · exact BU
 · exact BV
 · exact BW
 · exact BY
 · exact CA
 · exact CB
 · exact CC
 · exact CE
 · exact CF
 exact CH
theorem Q9 (x : Fact) (w : World) : Ret Tryz.prog 70 #[.agg x.cells] w fun r w' => r = .agg #[vi (Kr 1 x).1, vi (Kr 1 x).2] ∧ Up w w' := by
 have hW := Up.refl w
 refine cS (n := 6) (m := 9) func70 rfl rfl rfl (CW.S (Ah (.C7 (.t rfl)) rfl ?_))
 rintro _ w1 ⟨B1, rfl, NB1⟩
 have eB1 := NB1.at_
 have zB1 := NB1.size
 replace hW := hW.up NB1.up
 have hB1 := NB1.blk
 refine Ah (.Az zeroValue99) rfl ?_
 rintro _ w2 ⟨B2, rfl, NB2⟩
 have eB2 := NB2.at_
 replace hW := hW.up NB2.up
 replace hB1 := hB1.up NB2.up
 have hB2 := NB2.blk
 refine LW.S (CW.region (LW.pp (.fA 1 underlying36 rfl sizeOf3 rfl) (LW.pp (.ld isAgg3 rfl (hB1.Ai rfl)) (LW.pp (.H8 (cs := #[vi x.ID, vi 0]) underlying99 zeroValue99 sizeOf3 (.cons (.t rfl) (.cons (.const _) .nil)) rfl) (LW.E (.Ay sizeOf99 rfl (.t rfl) (.t rfl) eQ hB2 rfl) ?_)))))
 intro w3 Nw3
 replace hW := hW.sto Nw3.sto oQ
 replace hB1 := hB1.sto Nw3.sto oQ
 replace hB2 := Nw3.blk
 refine LW.T (CW.ret (F0 rfl rfl isAgg99 sizeOf99 rfl (hB2.agg) ⟨_, rfl, ?_⟩))
 exact ⟨rfl, hW⟩
theorem zE (x : Fact) (w : World) : Ret Tryz.prog 74 #[.agg x.cells] w fun r w' => r = .agg #[vi (Kr 4 x).1, vi (Kr 4 x).2] ∧ Up w w' := by
 have hW := Up.refl w
 refine cS (n := 8) (m := 9) func74 rfl rfl rfl (CW.S (Ah (.C7 (.t rfl)) rfl ?_))
 rintro _ w1 ⟨B1, rfl, NB1⟩
 have eB1 := NB1.at_
 have zB1 := NB1.size
 replace hW := hW.up NB1.up
 have hB1 := NB1.blk
 refine Ah (.Az zeroValue99) rfl ?_
 rintro _ w2 ⟨B2, rfl, NB2⟩
 have eB2 := NB2.at_
 replace hW := hW.up NB2.up
 replace hB1 := hB1.up NB2.up
 have hB2 := NB2.blk
 refine LW.S (CW.region (LW.pp (.fA 7 underlying36 rfl sizeOf3 rfl) (LW.pp (.ld isAgg3 rfl (hB1.Ai rfl)) (LW.pp (.fA 5 underlying36 rfl sizeOf3 rfl) (LW.pp (.ld isAgg3 rfl (hB1.Ai rfl)) (LW.pp (.H8 (cs := #[vi x.Wafer, vi x.Time]) underlying99 zeroValue99 sizeOf3 (.cons (.t rfl) (.cons (.t rfl) .nil)) rfl) (LW.E (.Ay sizeOf99 rfl (.t rfl) (.t rfl) eQ hB2 rfl) ?_)))))))
 intro w3 Nw3
 replace hW := hW.sto Nw3.sto oQ
 replace hB1 := hB1.sto Nw3.sto oQ
 replace hB2 := Nw3.blk
 refine LW.T (CW.ret (F0 rfl rfl isAgg99 sizeOf99 rfl (hB2.agg) ⟨_, rfl, ?_⟩))
 exact ⟨rfl, hW⟩
theorem zF (x : Fact) (w : World) : Ret Tryz.prog 76 #[.agg x.cells] w fun r w' => r = .agg #[vi (Kr 5 x).1, vi (Kr 5 x).2] ∧ Up w w' := by
 have hW := Up.refl w
 refine cS (n := 6) (m := 9) func76 rfl rfl rfl (CW.S (Ah (.C7 (.t rfl)) rfl ?_))
 rintro _ w1 ⟨B1, rfl, NB1⟩
 have eB1 := NB1.at_
 have zB1 := NB1.size
 replace hW := hW.up NB1.up
 have hB1 := NB1.blk
 refine Ah (.Az zeroValue99) rfl ?_
 rintro _ w2 ⟨B2, rfl, NB2⟩
 have eB2 := NB2.at_
 replace hW := hW.up NB2.up
 replace hB1 := hB1.up NB2.up
 have hB2 := NB2.blk
 refine LW.S (CW.region (LW.pp (.fA 10 underlying36 rfl sizeOf3 rfl) (LW.pp (.ld isAgg3 rfl (hB1.Ai rfl)) (LW.pp (.H8 (cs := #[vi x.Product, vi 0]) underlying99 zeroValue99 sizeOf3 (.cons (.t rfl) (.cons (.const _) .nil)) rfl) (LW.E (.Ay sizeOf99 rfl (.t rfl) (.t rfl) eQ hB2 rfl) ?_)))))
 intro w3 Nw3
 replace hW := hW.sto Nw3.sto oQ
 replace hB1 := hB1.sto Nw3.sto oQ
 replace hB2 := Nw3.blk
 refine LW.T (CW.ret (F0 rfl rfl isAgg99 sizeOf99 rfl (hB2.agg) ⟨_, rfl, ?_⟩))
 exact ⟨rfl, hW⟩
theorem zG (x : Fact) (w : World) : Ret Tryz.prog 80 #[.agg x.cells] w fun r w' => r = .agg #[vi (Kr 8 x).1, vi (Kr 8 x).2] ∧ Up w w' := by
 have hW := Up.refl w
 refine cS (n := 8) (m := 9) func80 rfl rfl rfl (CW.S (Ah (.C7 (.t rfl)) rfl ?_))
 rintro _ w1 ⟨B1, rfl, NB1⟩
 have eB1 := NB1.at_
 have zB1 := NB1.size
 replace hW := hW.up NB1.up
 have hB1 := NB1.blk
 refine Ah (.Az zeroValue99) rfl ?_
 rintro _ w2 ⟨B2, rfl, NB2⟩
 have eB2 := NB2.at_
 replace hW := hW.up NB2.up
 replace hB1 := hB1.up NB2.up
 have hB2 := NB2.blk
 refine LW.S (CW.region (LW.pp (.fA 8 underlying36 rfl sizeOf3 rfl) (LW.pp (.ld isAgg3 rfl (hB1.Ai rfl)) (LW.pp (.fA 17 underlying36 rfl sizeOf3 rfl) (LW.pp (.ld isAgg3 rfl (hB1.Ai rfl)) (LW.pp (.H8 (cs := #[vi x.Other, vi x.Parties]) underlying99 zeroValue99 sizeOf3 (.cons (.t rfl) (.cons (.t rfl) .nil)) rfl) (LW.E (.Ay sizeOf99 rfl (.t rfl) (.t rfl) eQ hB2 rfl) ?_)))))))
 intro w3 Nw3
 replace hW := hW.sto Nw3.sto oQ
 replace hB1 := hB1.sto Nw3.sto oQ
 replace hB2 := Nw3.blk
 refine LW.T (CW.ret (F0 rfl rfl isAgg99 sizeOf99 rfl (hB2.agg) ⟨_, rfl, ?_⟩))
 exact ⟨rfl, hW⟩
theorem uI (x : Fact) (w : World) : Ret Tryz.prog 83 #[.agg x.cells] w fun r w' => r = .agg #[vi (Kr 10 x).1, vi (Kr 10 x).2] ∧ Up w w' := by
 have hW := Up.refl w
 refine cS (n := 8) (m := 9) func83 rfl rfl rfl (CW.S (Ah (.C7 (.t rfl)) rfl ?_))
 rintro _ w1 ⟨B1, rfl, NB1⟩
 have eB1 := NB1.at_
 have zB1 := NB1.size
 replace hW := hW.up NB1.up
 have hB1 := NB1.blk
 refine Ah (.Az zeroValue99) rfl ?_
 rintro _ w2 ⟨B2, rfl, NB2⟩
 have eB2 := NB2.at_
 replace hW := hW.up NB2.up
 replace hB1 := hB1.up NB2.up
 have hB2 := NB2.blk
 refine LW.S (CW.region (LW.pp (.fA 14 underlying36 rfl sizeOf3 rfl) (LW.pp (.ld isAgg3 rfl (hB1.Ai rfl)) (LW.pp (.fA 5 underlying36 rfl sizeOf3 rfl) (LW.pp (.ld isAgg3 rfl (hB1.Ai rfl)) (LW.pp (.H8 (cs := #[vi x.Recipe, vi x.Time]) underlying99 zeroValue99 sizeOf3 (.cons (.t rfl) (.cons (.t rfl) .nil)) rfl) (LW.E (.Ay sizeOf99 rfl (.t rfl) (.t rfl) eQ hB2 rfl) ?_)))))))
 intro w3 Nw3
 replace hW := hW.sto Nw3.sto oQ
 replace hB1 := hB1.sto Nw3.sto oQ
 replace hB2 := Nw3.blk
 refine LW.T (CW.ret (F0 rfl rfl isAgg99 sizeOf99 rfl (hB2.agg) ⟨_, rfl, ?_⟩))
 exact ⟨rfl, hW⟩
theorem qJ (k : Int) (h1 : 1 ≤ k) (h2 : k ≤ 11) (x : Fact) (w : World) : Ret Tryz.prog (Nk k) #[.agg x.cells] w fun r w' => r = .agg #[vi (Kr k x).1, vi (Kr k x).2] ∧ Up w w' := by
 obtain rfl | rfl | rfl | rfl | rfl | rfl | rfl | rfl | rfl | rfl | rfl : k = 1 ∨ k = 2 ∨ k = 3 ∨ k = 4 ∨ k = 5 ∨ k = 6 ∨ k = 7 ∨ k = 8 ∨ k = 9 ∨ k = 10 ∨ k = 11 := by omega
 · exact Q9 x w
 · exact Q9 x w
 · exact Q9 x w
 · exact zE x w
 · exact zF x w
 · exact Q9 x w
 · exact Q9 x w
 · exact zG x w
 · exact Q9 x w
 · exact uI x w
 exact Q9 x w
theorem uJ (k : Int) (h1 : 1 ≤ k) (h2 : k ≤ 11) : ∀ (args : Array Go.Value) (w : World), (callFunc (Nk k) args).run Tryz.prog w = .ok (.enter (Nk k) args) w := by
 obtain rfl | rfl | rfl | rfl | rfl | rfl | rfl | rfl | rfl | rfl | rfl : k = 1 ∨ k = 2 ∨ k = 3 ∨ k = 4 ∨ k = 5 ∨ k = 6 ∨ k = 7 ∨ k = 8 ∨ k = 9 ∨ k = 10 ∨ k = 11 := by omega
 · exact Zc
 · exact Zc
 · exact Zc
 · exact BX
 · exact BZ
 · exact Zc
 · exact Zc
 · exact CD
 · exact Zc
 · exact CG
 exact Zc
theorem gG (w : World) : Ret Tryz.prog 33 #[] w fun r w' => ∃ b, r = .map (some b) ∧ IMap w' b (Pv Vt 11) ∧ w.heap.size ≤ b ∧ Up w w' := by
 have hW := Up.refl w
 refine cS (n := 14) (m := 9) func33 rfl rfl rfl (CW.S (LW.C (LW.S ?_)))
 skip
 refine CW.region (LW.r REv.makeMap rfl rfl rfl rfl ?_)
 rintro _ w1 ⟨B1, rfl, MB1, uB1, eB1, zB1⟩
 replace hW := hW.up uB1
 have hM1 := MB1
 refine LW.pp (.build (cs := #[.func (.func 69) #[] #[], .func (.func 70) #[] #[]]) underlying76 zeroValue76 C4 (.cons (.func _) (.cons (.func _) .nil)) rfl) ?_
 replace hM1 : IMap _ B1 (Pv Vt 0) := hM1
 refine LW.E (.insert (k := ((0 + 1 : Nat) : Int)) (v := Vt ((0 + 1 : Nat) : Int)) underlying70 underlying3 (.t rfl) (.const _) (.t rfl) hM1) ?_
 rintro w2 ⟨Mw2, Kw2, zw2⟩
 rw [Ey] at Mw2
 replace hM1 := Mw2
 replace hW := hW.sto Kw2 oQ
 refine LW.pp (.build (cs := #[.func (.func 71) #[] #[], .func (.func 70) #[] #[]]) underlying76 zeroValue76 C4 (.cons (.func _) (.cons (.func _) .nil)) rfl) (LW.E (.insert (k := ((1 + 1 : Nat) : Int)) (v := Vt ((1 + 1 : Nat) : Int)) underlying70 underlying3 (.t rfl) (.const _) (.t rfl) hM1) ?_)
 rintro w3 ⟨Mw3, Kw3, zw3⟩
 rw [Ey] at Mw3
 replace hM1 := Mw3
 replace hW := hW.sto Kw3 oQ
 refine LW.pp (.build (cs := #[.func (.func 72) #[] #[], .func (.func 70) #[] #[]]) underlying76 zeroValue76 C4 (.cons (.func _) (.cons (.func _) .nil)) rfl) (LW.E (.insert (k := ((2 + 1 : Nat) : Int)) (v := Vt ((2 + 1 : Nat) : Int)) underlying70 underlying3 (.t rfl) (.const _) (.t rfl) hM1) ?_)
 rintro w4 ⟨Mw4, Kw4, zw4⟩
 rw [Ey] at Mw4
 replace hM1 := Mw4
 replace hW := hW.sto Kw4 oQ
 refine LW.pp (.build (cs := #[.func (.func 73) #[] #[], .func (.func 74) #[] #[]]) underlying76 zeroValue76 C4 (.cons (.func _) (.cons (.func _) .nil)) rfl) (LW.E (.insert (k := ((3 + 1 : Nat) : Int)) (v := Vt ((3 + 1 : Nat) : Int)) underlying70 underlying3 (.t rfl) (.const _) (.t rfl) hM1) ?_)
 rintro w5 ⟨Mw5, Kw5, zw5⟩
 rw [Ey] at Mw5
 replace hM1 := Mw5
 replace hW := hW.sto Kw5 oQ
 refine LW.pp (.build (cs := #[.func (.func 75) #[] #[], .func (.func 76) #[] #[]]) underlying76 zeroValue76 C4 (.cons (.func _) (.cons (.func _) .nil)) rfl) (LW.E (.insert (k := ((4 + 1 : Nat) : Int)) (v := Vt ((4 + 1 : Nat) : Int)) underlying70 underlying3 (.t rfl) (.const _) (.t rfl) hM1) ?_)
 rintro w6 ⟨Mw6, Kw6, zw6⟩
 rw [Ey] at Mw6
 replace hM1 := Mw6
 replace hW := hW.sto Kw6 oQ
 refine LW.pp (.build (cs := #[.func (.func 77) #[] #[], .func (.func 70) #[] #[]]) underlying76 zeroValue76 C4 (.cons (.func _) (.cons (.func _) .nil)) rfl) (LW.E (.insert (k := ((5 + 1 : Nat) : Int)) (v := Vt ((5 + 1 : Nat) : Int)) underlying70 underlying3 (.t rfl) (.const _) (.t rfl) hM1) ?_)
 rintro w7 ⟨Mw7, Kw7, zw7⟩
 rw [Ey] at Mw7
 replace hM1 := Mw7
 replace hW := hW.sto Kw7 oQ
 refine LW.pp (.build (cs := #[.func (.func 78) #[] #[], .func (.func 70) #[] #[]]) underlying76 zeroValue76 C4 (.cons (.func _) (.cons (.func _) .nil)) rfl) (LW.E (.insert (k := ((6 + 1 : Nat) : Int)) (v := Vt ((6 + 1 : Nat) : Int)) underlying70 underlying3 (.t rfl) (.const _) (.t rfl) hM1) ?_)
 rintro w8 ⟨Mw8, Kw8, zw8⟩
 rw [Ey] at Mw8
 replace hM1 := Mw8
 replace hW := hW.sto Kw8 oQ
 refine LW.pp (.build (cs := #[.func (.func 79) #[] #[], .func (.func 80) #[] #[]]) underlying76 zeroValue76 C4 (.cons (.func _) (.cons (.func _) .nil)) rfl) (LW.E (.insert (k := ((7 + 1 : Nat) : Int)) (v := Vt ((7 + 1 : Nat) : Int)) underlying70 underlying3 (.t rfl) (.const _) (.t rfl) hM1) ?_)
 rintro w9 ⟨Mw9, Kw9, zw9⟩
 rw [Ey] at Mw9
 replace hM1 := Mw9
 replace hW := hW.sto Kw9 oQ
 refine LW.pp (.build (cs := #[.func (.func 81) #[] #[], .func (.func 70) #[] #[]]) underlying76 zeroValue76 C4 (.cons (.func _) (.cons (.func _) .nil)) rfl) (LW.E (.insert (k := ((8 + 1 : Nat) : Int)) (v := Vt ((8 + 1 : Nat) : Int)) underlying70 underlying3 (.t rfl) (.const _) (.t rfl) hM1) ?_)
 rintro w10 ⟨Mw10, Kw10, zw10⟩
 rw [Ey] at Mw10
 replace hM1 := Mw10
 replace hW := hW.sto Kw10 oQ
 refine LW.pp (.build (cs := #[.func (.func 82) #[] #[], .func (.func 83) #[] #[]]) underlying76 zeroValue76 C4 (.cons (.func _) (.cons (.func _) .nil)) rfl) (LW.E (.insert (k := ((9 + 1 : Nat) : Int)) (v := Vt ((9 + 1 : Nat) : Int)) underlying70 underlying3 (.t rfl) (.const _) (.t rfl) hM1) ?_)
 rintro w11 ⟨Mw11, Kw11, zw11⟩
 rw [Ey] at Mw11
 replace hM1 := Mw11
 replace hW := hW.sto Kw11 oQ
 refine LW.pp (.build (cs := #[.func (.func 84) #[] #[], .func (.func 70) #[] #[]]) underlying76 zeroValue76 C4 (.cons (.func _) (.cons (.func _) .nil)) rfl) (LW.E (.insert (k := ((10 + 1 : Nat) : Int)) (v := Vt ((10 + 1 : Nat) : Int)) underlying70 underlying3 (.t rfl) (.const _) (.t rfl) hM1) ?_)
 rintro w12 ⟨Mw12, Kw12, zw12⟩
 rw [Ey] at Mw12
 replace hM1 := Mw12
 replace hW := hW.sto Kw12 oQ
 refine LW.M rfl (LW.A rfl (LW.T (CW.ret (Ae rfl rfl ⟨_, rfl, ?_⟩))))
 exact ⟨_, rfl, hM1, by omega, hW⟩
end Go.Proofs.YtmimclgihlhaeaaGreat
namespace Go.Wx
abbrev E3 := List (List UInt8 × Fact)
def Ra (m : E3) (k : List UInt8) : Option Fact := (m.find? fun p => p.1 == k).map (·.2)
def Kt (m : E3) (k : List UInt8) (f : Fact) : E3 := if k ∈ m.map (·.1) then m.map (fun p => if p.1 = k then (k, f) else p) else m ++ [(k, f)]
def On (m : E3) : List (List UInt8 × Go.Value) := m.map fun p => (p.1, .agg p.2.cells)
theorem Lj (m : E3) : (On m).map (·.1) = m.map (·.1) := by simp [On]
theorem Xe (m : E3) (k : List UInt8) (f : Fact) : Ms.D5 (On m) k (.agg f.cells) = On (Kt m k f) := by
 unfold Ms.D5 Kt
 rw [Lj]
 split
 · simp only [On, List.map_map]
   apply List.map_congr_left
   intro p _
   simp only [Function.comp]
   split <;> rfl
 simp [On]
theorem gH {m : E3} {k : List UInt8} {f : Fact} (h : Ra m k = some f) : (k, .agg f.cells) ∈ On m := by
 unfold Ra at h
 cases hf : m.find? (fun p => p.1 == k) with
 | none => rw [hf] at h; cases h
 | some p =>
   rw [hf] at h
   have h1 := List.mem_of_find?_eq_some hf
   have h2 : (p.1 == k) = true := List.find?_some (p := fun p : List UInt8 × Fact => p.1 == k) hf
   have h3 := eq_of_beq h2
   simp at h
   refine List.mem_map.2 ⟨p, h1, ?_⟩
   rw [h3, h]
theorem Tq {m : E3} {k : List UInt8} (h : Ra m k = none) : k ∉ (On m).map (·.1) := by
 rw [Lj]
 intro hm
 obtain ⟨p, hp, e⟩ := List.mem_map.1 hm
 unfold Ra at h
 rw [Option.map_eq_none_iff, List.find?_eq_none] at h
 exact h p hp (by simp [e])
def Ct (day : Int) (m : E3) (f : Fact) : E3 := if Bj f = [] ∨ day < f.Day then m else match Ra m (Bj f) with
 | none => Kt m (Bj f) f
 | some old => if Ex f old = true then Kt m (Bj f) f else m
def F8 (l : List Fact) (day : Int) : E3 := l.foldl (Ct day) []
theorem Je {l : List Fact} {day : Int} {k : Nat} {x : Fact} (h : l[k]? = some x) : F8 (l.take (k + 1)) day = Ct day (F8 (l.take k) day) x := by
 rw [Ar h, F8, List.foldl_append]; rfl
theorem Hz {day : Int} {m : E3} {x : Fact} (h : Bj x = [] ∨ day < x.Day) : Ct day m x = m := by rw [Ct, if_pos h]
theorem Xf {day : Int} {m : E3} {x : Fact} (h : ¬ (Bj x = [] ∨ day < x.Day)) (hg : Ra m (Bj x) = none) : Ct day m x = Kt m (Bj x) x := by rw [Ct, if_neg h, hg]
theorem Xg {day : Int} {m : E3} {x old : Fact} (h : ¬ (Bj x = [] ∨ day < x.Day)) (hg : Ra m (Bj x) = some old) (hp : Ex x old = true) : Ct day m x = Kt m (Bj x) x := by rw [Ct, if_neg h, hg]; simp [hp]
theorem Xh {day : Int} {m : E3} {x old : Fact} (h : ¬ (Bj x = [] ∨ day < x.Day)) (hg : Ra m (Bj x) = some old) (hp : Ex x old = false) : Ct day m x = m := by rw [Ct, if_neg h, hg]; simp [hp]
def MOk (m : E3) : Prop := ∀ p ∈ m, p.1 = Bj p.2 ∧ A6 p.2 = true
theorem Jz {f : Fact} (h : Bj f ≠ []) : A6 f = true := by
 cases hv : A6 f with
 | true => rfl
 | false => rw [Bj, if_neg (by rw [hv]; exact Bool.false_ne_true)] at h; exact absurd rfl h
theorem MOk.set {m : E3} {f : Fact} (h : MOk m) (hf : A6 f = true) : MOk (Kt m (Bj f) f) := by
 intro p hp
 unfold Kt at hp
 split at hp
 · obtain ⟨q, hq, e⟩ := List.mem_map.1 hp
   split at e
   · rw [← e]; exact ⟨rfl, hf⟩
   rw [← e]; exact h q hq
 rcases List.mem_append.1 hp with hp | hp
 · exact h p hp
 simp at hp; rw [hp]; exact ⟨rfl, hf⟩
theorem Xi (m : E3) (k : List UInt8) (f : Fact) : (Kt m k f).length ≤ m.length + 1 := by
 unfold Kt
 split <;> simp
theorem MOk.step {m : E3} (h : MOk m) (day : Int) (f : Fact) : MOk (Ct day m f) ∧ (Ct day m f).length ≤ m.length + 1 := by
 unfold Ct
 split
 · exact ⟨h, by omega⟩
 rename_i hk
 have hv : A6 f = true := Jz fun e => hk (.inl e)
 split
 · exact ⟨h.set hv, Xi _ _ _⟩
 split
 · exact ⟨h.set hv, Xi _ _ _⟩
 exact ⟨h, by omega⟩
theorem U0 (day : Int) : ∀ (l : List Fact), MOk (F8 l day) ∧ (F8 l day).length ≤ l.length := by
 have : ∀ (l : List Fact) (m : E3), MOk m → MOk (l.foldl (Ct day) m) ∧ (l.foldl (Ct day) m).length ≤ m.length + l.length := by
   intro l
   induction l with
   | nil => intro m h; exact ⟨h, by simp⟩
   | cons x l ih =>
     intro m h
     have h1 := h.step day x
     have h2 := ih _ h1.1
     exact ⟨h2.1, by have := h2.2; simp only [List.foldl_cons, List.length_cons]; omega⟩
 intro l
 have h := this l [] (fun p hp => by simp at hp)
 exact ⟨h.1, by have := h.2; simp only [List.length_nil, Nat.zero_add] at this; exact this⟩
def Dw (dn : List Int) (ds : List Fact) (j : Nat) : List Fact :=
 if ((j + 1 : Nat) : Int) ∈ dn then D8 (Kr ((j + 1 : Nat) : Int)) (ds.filter fun f => !f.Gone && decide (f.Kind = ((j + 1 : Nat) : Int))) else ds.filter fun f => !f.Gone && decide (f.Kind = ((j + 1 : Nat) : Int))
def Xj (dn : List Int) (ds : List Fact) : List (List Fact) := (List.range 11).map (Dw dn ds)
theorem Ht (dn : List Int) (ds : List Fact) : (Xj dn ds).length = 11 := by simp [Xj]
theorem F2 (dn : List Int) (ds : List Fact) {j : Nat} (hj : j < 11) : (Xj dn ds)[j]? = some (Dw dn ds j) := by simp [Xj, hj]
theorem lA {ds : List Fact} {x : Fact} (h : x.Gone = true) : Xj [] (ds ++ [x]) = Xj [] ds := by
 unfold Xj
 apply List.map_congr_left
 intro j _
 simp [Dw, h]
theorem qK {ds : List Fact} {x : Fact} {j : Nat} (h : x.Gone = false) (hj : j < 11) (hk : x.Kind = ((j + 1 : Nat) : Int)) : Xj [] (ds ++ [x]) = (Xj [] ds).set j (Dw [] ds j ++ [x]) := by
 apply List.ext_getElem?
 intro i
 rw [List.getElem?_set]
 by_cases e : j = i
 · subst e
   rw [if_pos rfl, if_pos (by rw [Ht]; exact hj), F2 _ _ hj]
   simp [Dw, h, hk]
 rw [if_neg e]
 by_cases hi : i < 11
 · rw [F2 _ _ hi, F2 _ _ hi]
   have : decide (x.Kind = ((i + 1 : Nat) : Int)) = false := decide_eq_false oQ
   simp only [Dw, List.not_mem_nil, if_false, List.filter_append]
   rw [List.filter_cons, if_neg (by rw [this, Bool.and_false]; exact Bool.false_ne_true)]
   simp
 rw [List.getElem?_eq_none (by rw [Ht]; omega), List.getElem?_eq_none (by rw [Ht]; omega)]
theorem lB {dn : List Int} {ds : List Fact} {j : Nat} (hj : j < 11) (hn : ((j + 1 : Nat) : Int) ∉ dn) : (Xj dn ds).set j (D8 (Kr ((j + 1 : Nat) : Int)) (Dw dn ds j)) = Xj (dn ++ [((j + 1 : Nat) : Int)]) ds := by
 apply List.ext_getElem?
 intro i
 rw [List.getElem?_set]
 by_cases e : j = i
 · subst e
   rw [if_pos rfl, if_pos (by rw [Ht]; exact hj), F2 _ _ hj]
   unfold Dw
   rw [if_neg hn, if_pos (List.mem_append_right _ (List.mem_singleton.2 rfl))]
 rw [if_neg e]
 by_cases hi : i < 11
 · rw [F2 _ _ hi, F2 _ _ hi]
   have : ((i + 1 : Nat) : Int) ≠ ((j + 1 : Nat) : Int) := by omega
   simp only [Dw, List.mem_append, List.mem_singleton, this, or_false]
 rw [List.getElem?_eq_none (by rw [Ht]; omega), List.getElem?_eq_none (by rw [Ht]; omega)]
theorem U1 (dn : List Int) (ds : List Fact) (j : Nat) : (Dw dn ds j).length ≤ ds.length := by
 unfold Dw
 split
 · rw [(E8 _).same.length]; exact List.length_filter_le _ _
 exact List.length_filter_le _ _
theorem qL : Xj [] [] = List.replicate 11 ([] : List Fact) := by
 rfl
theorem qM (vs : List Go.Value) (j : Nat) (v : Go.Value) : vs.toArray.setIfInBounds j v = (vs.set j v).toArray := by simp
theorem gI {x : Fact} (h : Bj x = []) : ((⟨(Bj x).toArray⟩ : ByteArray).toList == (⟨#[]⟩ : ByteArray).toList) = true := by rw [Hy, Hy, h]; rfl
theorem lC {x : Fact} (h : Bj x ≠ []) : ((⟨(Bj x).toArray⟩ : ByteArray).toList == (⟨#[]⟩ : ByteArray).toList) = false := by
 rw [Hy, Hy]
 simpa using h
theorem U2 {vs : List Go.Value} (h : vs.length = 11) : ∃ v0 v1 v2 v3 v4 v5 v6 v7 v8 v9 v10, vs = [v0, v1, v2, v3, v4, v5, v6, v7, v8, v9, v10] := by
 match vs, h with
 | [v0, v1, v2, v3, v4, v5, v6, v7, v8, v9, v10], _ => exact ⟨v0, v1, v2, v3, v4, v5, v6, v7, v8, v9, v10, rfl⟩
def Xk (ds : List Fact) : Base := ⟨Dw [1] ds 0, Dw [2] ds 1, Dw [3] ds 2, Dw [4] ds 3, Dw [5] ds 4, Dw [6] ds 5, Dw [7] ds 6, Dw [8] ds 7, Dw [9] ds 8, Dw [10] ds 9, Dw [11] ds 10⟩
theorem Xl {dn : List Int} {ds : List Fact} {j : Nat} (h : ((j + 1 : Nat) : Int) ∈ dn) : Dw dn ds j = Dw [((j + 1 : Nat) : Int)] ds j := by
 unfold Dw
 rw [if_pos h, if_pos (List.mem_singleton.2 rfl)]
end Go.Wx
namespace Go.Proofs.YtmimclgihlhaeaaGreat
open Go.Proofs.Tryz
open Go.Wx Go.RowKit
end Go.Proofs.YtmimclgihlhaeaaGreat
namespace Go.Wx
theorem Rb {ds : List Fact} {x : Fact} (h : (ds.map Bj).Nodup) (hf : Bj x ∉ ds.map Bj) : ((ds ++ [x]).map Bj).Nodup := by
 rw [List.map_append, List.nodup_append]
 exact ⟨h, by simp, fun a ha c hc => by simp at hc; subst hc; exact fun e => hf (e ▸ ha)⟩
theorem Rc {ds : List Fact} {M : E3} (h : ∀ f ∈ ds, (Bj f, f) ∈ M) (hn : (ds.map Bj).Nodup) : ds.length ≤ M.length := by
 have := hn.length_le_of_subset (l₂ := M.map (·.1)) (fun k hk => by
   obtain ⟨f, hf, rfl⟩ := List.mem_map.1 hk
   exact List.mem_map.2 ⟨_, h f hf, rfl⟩)
 simpa using this
theorem Re {ds : List Fact} {M : E3} {x : Fact} (h : ∀ f ∈ ds, (Bj f, f) ∈ M) (hn : (ds.map Bj).Nodup) (hx : (Bj x, x) ∈ M) (hf : Bj x ∉ ds.map Bj) : ds.length + 1 ≤ M.length := by
 have := Rc (ds := ds ++ [x]) (M := M) (fun f hf => by rcases List.mem_append.1 hf with hf | hf; exact h f hf; simp at hf; rw [hf]; exact hx) (Rb hn hf)
 simpa using this
theorem gJ {dn : List Int} (h : dn.Nodup ∧ ∀ k ∈ dn, 1 ≤ k ∧ k ≤ 11) : dn.length ≤ 11 := by
 have := h.1.length_le_of_subset (l₂ := [1, 2, 3, 4, 5, 6, 7, 8, 9, 10, 11]) (fun k hk => by
   have := h.2 k hk
   simp; omega)
 simpa using this
theorem gK {dn : List Int} {k : Int} (h : dn.Nodup ∧ ∀ k ∈ dn, 1 ≤ k ∧ k ≤ 11) (hk : 1 ≤ k ∧ k ≤ 11) (hf : k ∉ dn) : dn.length + 1 ≤ 11 := by
 have := gJ (dn := dn ++ [k]) ⟨List.nodup_append.2 ⟨h.1, by simp, fun a ha c hc => by simp at hc; subst hc; exact fun e => hf (e ▸ ha)⟩, fun q hq => by rcases List.mem_append.1 hq with hq | hq; exact h.2 q hq; simp at hq; rw [hq]; exact hk⟩
 simpa using this
theorem Nl {α : Type} {vs : List α} {j : Nat} {v : α} (h : vs[j]? = some v) : vs.set j v = vs := by
 apply List.ext_getElem?
 intro i
 rw [List.getElem?_set]
 by_cases e : j = i
 · subst e
   rw [if_pos rfl, if_pos (List.getElem?_eq_some_iff.1 h).1, h]
 rw [if_neg e]
theorem Fh {e : Nat} {dn : List Int} {ds : List Fact} {vs : List Go.Value} {w : World} (h : (Db (lists e 19 Fact.cells vs (Xj dn ds))).holds w) {j : Nat} {v : Go.Value} (hv : vs[j]? = some v) (hj : j < 11) (hin : ((j + 1 : Nat) : Int) ∈ dn) : Sl w v 19 Fact.cells (Dw [((j + 1 : Nat) : Int)] ds j) := by
 have := (Jd h hv (F2 _ _ hj)).sl (fun _ => rfl)
 rwa [Xl hin] at this
theorem lD {e : Nat} {dn : List Int} {ds : List Fact} {vs : List Go.Value} {w : World} (h : (Db (lists e 19 Fact.cells vs (Xj dn ds))).holds w) {j : Nat} {v : Go.Value} (hv : vs[j]? = some v) (hj : j < 11) (hin : ((j + 1 : Nat) : Int) ∈ dn) : OwnS w 0 e 19 Fact.cells v (Dw [((j + 1 : Nat) : Int)] ds j) := by
 have := Jd h hv (F2 _ _ hj)
 rwa [Xl hin] at this
def sM (base : Nat) (bc : Array Go.Value) : Prop := ∀ (j : Nat) (v : Go.Value), bc[j]? = some v → ∀ i, v.ownBlock = some i → base ≤ i
theorem Z6 {α : Type} {e k base : Nat} {enc : α → Array Go.Value} {vs : List Go.Value} {xss : List (List α)} (hl : vs.length = xss.length) (h : ∀ i, (Db (lists e k enc vs xss)).foot i → base ≤ i) : sM base vs.toArray := fun j v hv i hi => by
 have hv2 : vs[j]? = some v := by simpa using hv
 have hlt := (List.getElem?_eq_some_iff.1 hv2).1
 obtain ⟨xs, hx⟩ := Ac (xs := xss) (i := j) oQ
 exact h i ⟨_, List.mem_of_getElem? (Li hv2 hx), hi⟩
theorem qN {vs : List Go.Value} (h : ∀ v ∈ vs, v.oneCell' = true) : vs.toArray.all (·.oneCell') = true := by
 rw [Array.all_eq_true_iff_forall_mem]
 intro v hv
 exact h v (by simpa using hv)
end Go.Wx
namespace Go.Proofs.YtmimclgihlhaeaaGreat
open Go.Proofs.Tryz
open Go.Wx Go.RowKit
set_option maxHeartbeats 8000000 in
theorem qO (ad : Option Addr) (cp : Nat) (l : List Fact) (day : Int) (w : World) (hE0 : Els w ad 19 Fact.cells l) (hl : l.length ≤ 100000) : Ret Tryz.prog 13 #[.slice ad l.length cp, vi day] w fun r w' => ∃ bc ds, r = .agg bc ∧ BaseC w' bc (Xk ds) ∧ (∀ f ∈ ds, (Bj f, f) ∈ F8 l day) ∧ (ds.map Bj).Perm ((F8 l day).map (·.1)) ∧ sM w.heap.size bc ∧ (∃ v, bc[0]? = some v ∧ OwnS w' 0 36 19 Fact.cells v (Xk ds).Processes) ∧ Up w w' := by
 obtain ⟨w0, rfl⟩ : ∃ w0, w0 = w := ⟨_, rfl⟩
 have hS := Sep.start no w0
 refine cS (n := 91) (m := 9) func13 rfl rfl rfl (CW.S (Ah (.Az zeroValue38) rfl ?_))
 rintro _ w1 ⟨B4, rfl, NB4⟩
 replace hS := hS.Cj NB4
 refine LW.S (CW.region (LW.r Ms.REv.makeMap rfl rfl rfl rfl ?_))
 rintro _ w2 ⟨B18, rfl, M18, u18, e18, z18⟩
 replace hS := hS.add u18 (A' := Ms.Cf B18 (On [])) M18 (fun i (e : i = B18) => by omega)
 refine LW.A rfl (LW.S (CW.S (LW.M rfl (LW.pp (.Ci underlying23 (.t rfl)) (LW.pp (.move (.const _)) (LW.T (CW.block (Am (σ := Nat) (fun s w => (s ≤ l.length) ∧ (Wx.Sep no w0 w [Ck B4 #[.slice none 0 0, .slice none 0 0, .slice none 0 0, .slice none 0 0, .slice none 0 0, .slice none 0 0, .slice none 0 0, .slice none 0 0, .slice none 0 0, .slice none 0 0, .slice none 0 0] 38, Ms.Cf B18 (On (F8 (l.take s) day))])) (fun s => [(21, .eq (vi (s : Int)))]) ([(1, .eq _), (4, .eq _), (5, .eq _), (19, .eq _), (20, .eq _)]) (fun s => l.length - s) 0 ?_ ⟨rfl, rfl, rfl, rfl, rfl, rfl, trivial⟩ ?_))))))))
 ·exact ⟨Nat.zero_le _, hS⟩
 rintro k w3 ⟨hkk, hS⟩
 refine CW.S (LW.pp (.lss (.t rfl) (.t rfl)) (LW.S (CW.cond (.t rfl) (fun h22 => ?_) (fun h22 => ?_))))
 ·replace h22 := dQ h22
  refine CW.skip (KW.then (CW.seq (CW.block (CW.seq ?_))))
  have hE := Els.up hE0 hS.Ce
  have hkl : k < l.length := by simp at h22; omega
  refine CW.region ?_
  obtain ⟨x, hx⟩ := Ac (xs := l) (i := k) oQ
  obtain ⟨Bx, ox, ax, hcx⟩ := hE _ x hx
  refine LW.pp (.Aj underlying23 sizeOf36 (.t rfl) (.t rfl) oQ ax) (LW.pp (.la isAgg36 sizeOf36 rfl (hcx)) (Ah (.Az zeroValue36) rfl ?_))
  rintro _ w4 ⟨B7, rfl, MB7⟩
  refine LW.E (.Ay sizeOf36 rfl (.t rfl) (.t rfl) eQ MB7.blk rfl) ?_
  intro w5 LB7
  have NB7 := MB7.set LB7
  replace hcx := hcx.up NB7.up
  replace hS := hS.Cj NB7
  refine LW.S (CW.region (LW.pp (.la isAgg36 sizeOf36 rfl ((hS.blk 2 rfl).agg)) (LW.K (eC (.o rfl) (sX)) rfl (Us x _) ?_)))
  rintro _ w6 ⟨rfl, uw6⟩
  replace hS := hS.up uw6
  refine LW.A rfl (LW.S (CW.seq ?_))
  cases hq6 : decide (Bj x = []) with
  | true =>
   replace hq6 := of_decide_eq_true hq6
   refine CW.region (LW.M rfl (LW.pp (.tr (Qo (.t rfl) (.const _)) (gI hq6)) (LW.M rfl (LW.N (LW.N (LW.N (LW.N (LW.pp (.tr (PEv.A7 (b := false) (.t rfl) (fun hp => absurd (show true = false from hp) cQ)) (rfl)) (LW.T (CW.cond_true (.t rfl) (CW.exit (Aa (Ad (KW.then (CW.region (LW.pp (.inc (.t rfl) oQ) (LW.M rfl (LW.nil (KW.round ?_)))))))))))))))))))
   exact ⟨k + 1, ⟨by omega, by rw [Je hx]; (rw [Hz (.inl hq6)]; exact hS.take 2)⟩, ⟨rfl, rfl, rfl, rfl, rfl, rfl, trivial⟩, by omega⟩
  | false =>
   replace hq6 := of_decide_eq_false hq6
   refine CW.region (LW.M rfl (LW.pp (.fa (Qo (.t rfl) (.const _)) (lC hq6)) (LW.M rfl (LW.Y (LW.pp (.fA 3 underlying36 rfl sizeOf3 rfl) (LW.Y (LW.pp (.ld isAgg3 rfl ((hS.blk 2 rfl).Ai rfl)) (LW.Y (LW.M rfl (LW.Y (LW.pp (.gtr (.t rfl) (.t rfl)) (LW.pp (.A7 (.t rfl) (fun hp => (by exact .tmp rfl))) (LW.T (CW.cond (.t rfl) (fun h34 => ?_) (fun h34 => ?_)))))))))))))))
   ·replace h34 := dQ h34
    skip
    refine CW.exit (Aa (Ad (KW.then (CW.region (LW.pp (.inc (.t rfl) oQ) (LW.M rfl (LW.nil (KW.round ?_))))))))
    exact ⟨k + 1, ⟨by omega, by rw [Je hx]; (rw [Hz (.inr h34)]; exact hS.take 2)⟩, ⟨rfl, rfl, rfl, rfl, rfl, rfl, trivial⟩, by omega⟩
   replace h34 := dQ h34
   have hno : ¬ (Bj x = [] ∨ day < x.Day) := fun h => h.elim hq6 (fun h2 => by simp at h34; omega)
   refine CW.skip (KW.then (CW.seq ?_))
   cases hq7 : Ra (F8 (l.take k) day) (Bj x) with
   | none =>
    refine CW.region (LW.M rfl (LW.M rfl (LW.pp (Ms.PEv.G4 underlying66 underlying9 zeroValue36 (.t rfl) (.t rfl) (hS.get 1 rfl) (Tq hq7)) (LW.M rfl (LW.pp (.extract (.t rfl) rfl) (LW.pp (.extract (.t rfl) rfl) (Ah (.Az zeroValue36) rfl ?_)))))))
    rintro _ w7 ⟨B9, rfl, MB9⟩
    refine LW.E (.Ay sizeOf36 rfl (.t rfl) (.t rfl) eQ MB9.blk rfl) ?_
    intro w8 LB9
    have NB9 := MB9.set LB9
    replace hS := hS.Cj NB9
    refine LW.A rfl (LW.S (CW.region (LW.M rfl (LW.pp (.tr (PEv.not (.t rfl)) (rfl)) (LW.M rfl (LW.N (LW.N (LW.N (LW.pp (.tr (PEv.A7 (b := false) (.t rfl) (fun hp => absurd (show true = false from hp) cQ)) (rfl)) (LW.T (CW.cond_true (.t rfl) (CW.region (LW.M rfl (LW.M rfl (LW.pp (.la isAgg36 sizeOf36 rfl ((hS.blk 2 rfl).agg)) (LW.E (Ms.SEv.mapUpdate underlying66 underlying9 (.t rfl) (.t rfl) (.t rfl) (hS.get 1 rfl)) ?_))))))))))))))))
    rintro w9 ⟨Mu, Ku, zu⟩
    rw [Xe] at Mu
    replace hS := hS.Dh 1 rfl (Ms.Jy Mu Ku)
    refine LW.nil (KW.inBlock (KW.then (CW.region (LW.pp (.inc (.t rfl) oQ) (LW.M rfl (LW.nil (KW.round ?_)))))))
    exact ⟨k + 1, ⟨by omega, by rw [Je hx]; (rw [Xf hno hq7]; exact hS.take 2)⟩, ⟨rfl, rfl, rfl, rfl, rfl, rfl, trivial⟩, by omega⟩
   | some old =>
    refine CW.region (LW.M rfl (LW.M rfl (LW.pp (Ms.PEv.C1 underlying66 underlying9 (.t rfl) (.t rfl) (hS.get 1 rfl) (gH hq7)) (LW.M rfl (LW.pp (.extract (.t rfl) rfl) (LW.pp (.extract (.t rfl) rfl) (Ah (.Az zeroValue36) rfl ?_)))))))
    rintro _ w10 ⟨B9, rfl, MB9⟩
    refine LW.E (.Ay sizeOf36 rfl (.t rfl) (.t rfl) eQ MB9.blk rfl) ?_
    intro w11 LB9
    have NB9 := MB9.set LB9
    replace hS := hS.Cj NB9
    refine LW.A rfl (LW.S (CW.region (LW.M rfl (LW.pp (.fa (PEv.not (.t rfl)) (rfl)) (LW.M rfl (LW.Y (LW.pp (.la isAgg36 sizeOf36 rfl ((hS.blk 2 rfl).agg)) (LW.Y (LW.pp (.la isAgg36 sizeOf36 rfl ((hS.blk 3 rfl).agg)) (LW.Y (LW.K (eC (.u rfl rfl) (AY)) rfl (Uu x old _) ?_)))))))))))
    rintro _ w12 ⟨rfl, uw12⟩
    replace hS := hS.up uw12
    refine LW.pp (.A7 (.t rfl) (fun hp => (by exact .tmp rfl))) (LW.T (CW.cond (.t rfl) (fun h47 => ?_) (fun h47 => ?_)))
    ·replace h47 : Ex x old = true := by simpa using h47
     refine CW.region (LW.M rfl (LW.M rfl (LW.pp (.la isAgg36 sizeOf36 rfl ((hS.blk 2 rfl).agg)) (LW.E (Ms.SEv.mapUpdate underlying66 underlying9 (.t rfl) (.t rfl) (.t rfl) (hS.get 1 rfl)) ?_))))
     rintro w13 ⟨Mu, Ku, zu⟩
     rw [Xe] at Mu
     replace hS := hS.Dh 1 rfl (Ms.Jy Mu Ku)
     refine LW.nil (KW.inBlock (KW.then (CW.region (LW.pp (.inc (.t rfl) oQ) (LW.M rfl (LW.nil (KW.round ?_)))))))
     exact ⟨k + 1, ⟨by omega, by rw [Je hx]; (rw [Xg hno hq7 h47]; exact hS.take 2)⟩, ⟨rfl, rfl, rfl, rfl, rfl, rfl, trivial⟩, by omega⟩
    replace h47 : Ex x old = false := by simpa using h47
    refine CW.skip (KW.inBlock (KW.then (CW.region (LW.pp (.inc (.t rfl) oQ) (LW.M rfl (LW.nil (KW.round ?_)))))))
    exact ⟨k + 1, ⟨by omega, by rw [Je hx]; (rw [Xh hno hq7 h47]; exact hS.take 2)⟩, ⟨rfl, rfl, rfl, rfl, rfl, rfl, trivial⟩, by omega⟩
 refine CW.exit (Aa (Aa (Ad (KW.then (CW.seq ?_)))))
 have hkl : k = l.length := by simp at h22; omega
 subst hkl
 rw [List.take_length] at hS
 obtain ⟨M, hM⟩ : ∃ M, M = F8 l day := ⟨_, rfl⟩
 rw [← hM] at hS
 have hMo := (U0 day l).1
 have hMl := (U0 day l).2
 rw [← hM] at hMo hMl
 refine CW.region (Ah (.Az zeroValue38) rfl ?_)
 rintro _ w14 ⟨B11, rfl, NB11⟩
 replace hS := hS.Cj NB11
 refine LW.S (CW.region (LW.K (eC .nil (AZ)) rfl (gG _) ?_))
 rintro _ w15 ⟨bk, rfl, hKm, hKb, uw15⟩
 replace hS := hS.add uw15 (A' := Cf bk (Pv Vt 11)) (hKm) (fun i (e : i = bk) => by omega)
 refine LW.A rfl (LW.S (CW.seq ?_))
 have hLn := gF 36 19 Fact.cells 11 w15
 replace hS := hS.add (Up.refl _) (A' := Db (lists 36 19 Fact.cells (List.replicate 11 (.slice none 0 0)) (List.replicate 11 ([] : List Fact)))) hLn.1 (fun i h => absurd h (hLn.2 i))
 rw [← qL] at hS
 refine CW.region (LW.M rfl (Ah (Ms.REv.range underlying66 (.t rfl) (hS.get 1 rfl)) rfl ?_))
 rintro _ w16 ⟨r54, rfl, hR_, uR, eR, zR⟩
 replace hS := hS.Dh 1 rfl (Ms.Gq hR_ uR eR)
 refine LW.T (CW.block (Am (σ := List Fact × List Go.Value) (fun s w => (∀ f ∈ s.1, (Bj f, f) ∈ M) ∧ ((s.1.map Bj).Nodup) ∧ (s.2.length = 11) ∧ (Wx.Sep no w0 w [Ck B4 #[.slice none 0 0, .slice none 0 0, .slice none 0 0, .slice none 0 0, .slice none 0 0, .slice none 0 0, .slice none 0 0, .slice none 0 0, .slice none 0 0, .slice none 0 0, .slice none 0 0] 38, Ms.Fq B18 r54 (On M) (s.1.map Bj), Ck B11 s.2.toArray 38, Cf bk (Pv Vt 11), Db (lists 36 19 Fact.cells s.2 (Xj [] s.1))])) (fun s => []) ([(4, .eq _), (11, .eq _), (12, .eq _), (54, .eq _)]) (fun s => M.length - s.1.length) ([], List.replicate 11 (.slice none 0 0)) ?_ ⟨rfl, rfl, rfl, rfl, trivial⟩ ?_))
 ·exact ⟨fun f h => by simp at h, List.nodup_nil, rfl, hS⟩
 rintro ⟨ds, vs⟩ w17 ⟨hds, hdn, hvl, hS⟩
 dsimp only at hds hdn hvl hS
 refine CW.S (Ah (Ms.REv.next (.t rfl) (hS.get 1 rfl)) rfl ?_)
 rintro _ w18 (⟨rfl, rfl, hPm⟩ | ⟨k0, u0, rfl, hNx⟩)
 ·skip
  refine LW.pp (.extract (.t rfl) rfl) (LW.S (CW.cond_false (.t rfl) (CW.exit (Aa (Aa (Ad (KW.then (CW.seq (CW.seq ?_)))))))))
  have hPd := hPm
  refine CW.region (LW.M rfl (Ah (.range underlying70 (.t rfl) (hS.get 3 rfl)) rfl ?_))
  rintro _ w19 ⟨r77, rfl, hR_, uR, eR, zR⟩
  replace hS := hS.Dh 3 rfl (Gq hR_ uR eR)
  refine LW.T (CW.block (Am (σ := List Int) (fun s w => (s.Nodup ∧ ∀ k ∈ s, 1 ≤ k ∧ k ≤ 11) ∧ (Wx.Sep no w0 w [Ck B4 #[.slice none 0 0, .slice none 0 0, .slice none 0 0, .slice none 0 0, .slice none 0 0, .slice none 0 0, .slice none 0 0, .slice none 0 0, .slice none 0 0, .slice none 0 0, .slice none 0 0] 38, Ms.Fq B18 r54 (On M) (ds.map Bj), Ck B11 vs.toArray 38, Fq bk r77 (Pv Vt 11) s, Db (lists 36 19 Fact.cells vs (Xj s ds))])) (fun s => []) ([(4, .eq _), (11, .eq _), (77, .eq _)]) (fun s => 11 - s.length) [] ?_ ⟨rfl, rfl, rfl, trivial⟩ ?_))
  ·exact ⟨⟨List.nodup_nil, fun k h => by simp at h⟩, hS⟩
  rintro dn w20 ⟨hdk, hS⟩
  refine CW.S (Ah (.next (.t rfl) (hS.get 3 rfl)) rfl ?_)
  rintro _ w21 (⟨rfl, rfl, hPm⟩ | ⟨kk, u0, rfl, hNx⟩)
  ·skip
   refine LW.pp (.extract (.t rfl) rfl) (LW.S (CW.cond_false (.t rfl) (CW.exit (Aa (Aa (Ad (KW.then (CW.seq ?_))))))))
   obtain ⟨v0, v1, v2, v3, v4, v5, v6, v7, v8, v9, v10, rfl⟩ := U2 hvl
   have hv1 := Tp (hS.get 4 rfl) (by rw [hvl, Ht])
   refine CW.region (LW.pp (.la isAgg38 sizeOf38 rfl ((hS.blk 2 rfl).agg)) (LW.E (.Ay sizeOf38 rfl (.t rfl) (.t rfl) (qN hv1) (hS.blk 0 rfl) rfl) ?_))
   intro w22 Nw22
   have zw22 := Nw22.size
   replace hS := hS.Gf 0 rfl Nw22
   refine LW.T (CW.ret (F0 rfl rfl isAgg38 sizeOf38 rfl ((hS.blk 0 rfl).agg) ⟨_, rfl, ?_⟩))
   have hOw := hS.get 4 rfl
   have hin : ∀ k : Nat, k < 11 → ((k + 1 : Nat) : Int) ∈ dn := fun k hk => hPm.symm.subset (List.mem_map.2 ⟨(((k + 1 : Nat) : Int), Vt ((k + 1 : Nat) : Int)), Kp.2 ⟨by omega, by omega, rfl⟩, rfl⟩)
   exact ⟨_, ds, rfl, ⟨v0, v1, v2, v3, v4, v5, v6, v7, v8, v9, v10, rfl, Fh hOw (j := 0) rfl cQ (hin 0 cQ), Fh hOw (j := 1) rfl cQ (hin 1 cQ), Fh hOw (j := 2) rfl cQ (hin 2 cQ), Fh hOw (j := 3) rfl cQ (hin 3 cQ), Fh hOw (j := 4) rfl cQ (hin 4 cQ), Fh hOw (j := 5) rfl cQ (hin 5 cQ), Fh hOw (j := 6) rfl cQ (hin 6 cQ), Fh hOw (j := 7) rfl cQ (hin 7 cQ), Fh hOw (j := 8) rfl cQ (hin 8 cQ), Fh hOw (j := 9) rfl cQ (hin 9 cQ), Fh hOw (j := 10) rfl cQ (hin 10 cQ)⟩, fun f hf => hM ▸ hds f hf, by rw [Lj] at hPd; exact hM ▸ hPd, Z6 (by rw [Ht]; rfl) (fun i hi => (hS.foot 4 rfl i hi).resolve_left fun h => h), ⟨v0, rfl, lD hOw (j := 0) rfl cQ (hin 0 cQ)⟩, hS.Ce⟩
  skip
  have zw21 := hNx.size
  replace hS := hS.Dh 3 rfl (H9 hNx)
  obtain ⟨hk1, hk2, hu0⟩ := Kp.1 hNx.mem
  subst hu0
  have hfr2 := hNx.fresh
  have hkk1 : 1 ≤ kk ∧ kk ≤ 11 := ⟨hk1, by omega⟩
  replace hk2 : kk ≤ 11 := by omega
  obtain ⟨j, hj⟩ : ∃ j, j = (kk - 1).toNat := ⟨_, rfl⟩
  have hj11 : j < 11 := by omega
  have hkk2 : kk = ((j + 1 : Nat) : Int) := by omega
  have hdl := Rc hds hdn
  obtain ⟨v, hvj⟩ := Ac (xs := vs) (i := j) oQ
  have hdk2 : (dn ++ [kk]).Nodup ∧ ∀ k ∈ dn ++ [kk], 1 ≤ k ∧ k ≤ 11 := ⟨List.nodup_append.2 ⟨hdk.1, by simp, fun a ha c hc => by simp at hc; subst hc; exact fun e => hfr2 (e ▸ ha)⟩, fun k hk => (List.mem_append.1 hk).elim (hdk.2 k) (fun h => by cases List.mem_singleton.1 h; exact hkk1)⟩
  refine LW.pp (.extract (.t rfl) rfl) (LW.S (CW.cond_true (.t rfl) (CW.skip (KW.then (CW.block (CW.seq ?_))))))
  skip
  refine CW.region (Ah (.entry (.t rfl) hNx.entry) rfl ?_)
  rintro _ _ ⟨rfl, rfl⟩
  refine LW.pp (.val (v' := .agg #[.func (.func (Mo kk)) #[] #[], .func (.func (Nk kk)) #[] #[]]) (PEv.extract (.t rfl) rfl) rfl) (Ah (.Az zeroValue76) rfl ?_)
  rintro _ w23 ⟨B17, rfl, MB17⟩
  refine LW.E (.Ay sizeOf76 rfl (.t rfl) (.t rfl) eQ MB17.blk rfl) ?_
  intro w24 LB17
  have NB17 := MB17.set LB17
  replace hS := hS.Cj NB17
  refine LW.T (Fl 7 [.eq (.pointer (some ⟨B17, 0, none⟩)), .eq (.func (.func (Mo kk)) #[] #[]), .eq (.pointer (some ⟨B11, j, none⟩)), .eq (.pointer (some ⟨B11, j, none⟩)), .eq (v), .eq (.pointer (some ⟨B17, 1, none⟩)), .eq (.func (.func (Nk kk)) #[] #[])] [86, 88] kQ rfl kQ kQ kQ kQ kQ kQ kQ ⟨PhU.eq _, PhU.eq _, PhU.eq _, PhU.eq _, PhU.eq _, PhU.eq _, PhU.eq _, trivial⟩ ?_ ?_)
  ·intro W hU0
   have hU := (Up.drew w24).trans hU0
   refine aC ⟨rfl, TU.p (.fA 0 underlying76 rfl sizeOf73 rfl) rfl⟩ (aC ⟨rfl, TU.p (.ld isAgg73 rfl (((hS.blk 5 rfl).up hU).Ai rfl)) rfl⟩ (aC ⟨rfl, TU.c (C0 (.t rfl) (.cons (.t rfl) .nil) (dB kk hk1 hk2)) (Xd kk hk1 hk2 B11 _) (by rintro _ W1 ⟨rfl, u⟩; exact ⟨u, by rw [hj]; rfl⟩)⟩ (aC ⟨rfl, TU.p (.nilCheck (.t rfl)) rfl⟩ (aC ⟨rfl, TU.p (.ld isAgg23 rfl (((hS.blk 2 rfl).up hU).cell (by simpa using hvj))) rfl⟩ (aC ⟨rfl, TU.p (.fA 1 underlying76 rfl sizeOf74 rfl) rfl⟩ (aC ⟨rfl, TU.p (.ld isAgg74 rfl (((hS.blk 5 rfl).up hU).Ai rfl)) rfl⟩ ?_))))))
   exact allL.nil
  intro w25 g hU0 hg
  have hU := (Up.drew w24).trans hU0
  replace hS := hS.up hU
  have e86 : g 86 = v := hg 4 _ 86 cQ rfl rfl
  have e88 : g 88 = .func (.func (Nk kk)) #[] #[] := hg 6 _ 88 cQ rfl rfl
  change LW _ _ _ _ _ _ _ _ ((86, .eq (g 86)) :: (88, .eq (g 88)) :: _) _
  rw [e86, e88]
  refine LW.K (eC (.u rfl rfl) (BB)) rfl (Jv (Nk kk) (Kr kk) (uJ kk hk1 hk2) (fun W x => qJ kk hk1 hk2 x W) v (Dw dn ds j) _ (Jd (hS.get 4 rfl) hvj (F2 _ _ hj11)) (by have := U1 dn ds j; omega)) ?_
  rintro _ w26 ⟨rfl, hSo⟩
  replace hS := hS.Dh 4 rfl (Kq (hS.get 4 rfl) (Li hvj (F2 _ _ hj11)) hSo)
  rw [Om, Nl hvj, hkk2] at hS
  refine LW.nil (KW.inBlock (KW.round ?_))
  exact ⟨dn ++ [kk], ⟨hdk2, by rw [hkk2, ← lB hj11 (by rw [← hkk2]; exact hfr2)]; exact hS.take 5⟩, ⟨rfl, rfl, rfl, trivial⟩, by have := gK hdk hkk1 hfr2; simp; omega⟩
 skip
 have zw18 := hNx.size
 replace hS := hS.Dh 1 rfl (Ms.H9 hNx)
 obtain ⟨⟨kx, x⟩, hmem0, he0⟩ := List.mem_map.1 hNx.mem
 cases he0
 obtain ⟨L0, hxv⟩ := hMo _ hmem0
 dsimp only at L0 hxv
 subst L0
 have hmem := hmem0
 have hfr := hNx.fresh
 have hk12 : 1 ≤ x.Kind ∧ x.Kind ≤ 11 := Ep hxv
 have hds2 : ∀ f ∈ ds ++ [x], (Bj f, f) ∈ M := fun f hf => (List.mem_append.1 hf).elim (hds f) (fun h => by cases List.mem_singleton.1 h; exact hmem)
 have hdn2 : ((ds ++ [x]).map Bj).Nodup := Rb hdn hfr
 obtain ⟨j, hj⟩ : ∃ j, j = (x.Kind - 1).toNat := ⟨_, rfl⟩
 have hj11 : j < 11 := by omega
 have hkj : x.Kind = ((j + 1 : Nat) : Int) := by omega
 have hdl := Rc hds hdn
 have hdl2 := Re hds hdn hmem hfr
 refine LW.pp (.extract (.t rfl) rfl) (LW.S (CW.cond_true (.t rfl) (CW.skip (KW.then (CW.block (CW.S (Ah (Ms.REv.entry (.t rfl) hNx.entry) rfl ?_)))))))
 rintro _ _ ⟨rfl, rfl⟩
 refine LW.pp (.extract (.t rfl) rfl) (Ah (.Az zeroValue36) rfl ?_)
 rintro _ w27 ⟨B14, rfl, MB14⟩
 refine LW.E (.Ay sizeOf36 rfl (.t rfl) (.t rfl) eQ MB14.blk rfl) ?_
 intro w28 LB14
 have NB14 := MB14.set LB14
 replace hS := hS.Cj NB14
 refine LW.S ?_
 cases hq16 : x.Gone with
 | true =>
  have hgn := hq16
  refine CW.region (LW.pp (.fA 4 underlying36 rfl sizeOf4 rfl) (LW.pp (.ld isAgg4 rfl ((hS.blk 5 rfl).Ai rfl)) (LW.pp (.fa (PEv.not (.t rfl)) (by rw [hq16]; rfl)) (LW.T (CW.cond_false (.t rfl) (CW.skip (KW.inBlock (KW.round ?_))))))))
  exact ⟨(ds ++ [x], vs), ⟨hds2, hdn2, hvl, by (rw [lA hgn, List.map_append]; exact hS.take 5)⟩, ⟨rfl, rfl, rfl, rfl, trivial⟩, by show M.length - (ds ++ [x]).length < M.length - ds.length; have := Re hds hdn hmem hfr; simp; omega⟩
 | false =>
  have hgn := hq16
  refine CW.region (LW.pp (.fA 4 underlying36 rfl sizeOf4 rfl) (LW.pp (.ld isAgg4 rfl ((hS.blk 5 rfl).Ai rfl)) (LW.pp (.tr (PEv.not (.t rfl)) (by rw [hq16]; rfl)) (LW.T (CW.cond_true (.t rfl) (CW.S (LW.M rfl (LW.pp (.fA 0 underlying36 rfl sizeOf3 rfl) (LW.pp (.ld isAgg3 rfl ((hS.blk 5 rfl).Ai rfl)) (LW.pp (.val (v' := .agg #[.func (.func (Mo x.Kind)) #[] #[], .func (.func (Nk x.Kind)) #[] #[]]) (PEv.C1 (ok := false) underlying70 underlying3 (.t rfl) (.t rfl) (hS.get 3 rfl) (Kp.2 ⟨hk12.1, (show x.Kind ≤ ((11 : Nat) : Int) from by omega), rfl⟩)) rfl) (LW.pp (.jY (off := 0) underlying76 rfl rfl isAgg73 (.t rfl) rfl) (LW.K (C0 (.t rfl) (.cons (.t rfl) .nil) (dB x.Kind hk12.1 hk12.2)) rfl (Xd x.Kind hk12.1 hk12.2 B11 _) ?_))))))))))))
  rintro _ w29 ⟨rfl, uw29⟩
  replace hS := hS.up uw29
  rw [← hj]
  refine LW.A rfl (LW.T ?_)
  obtain ⟨v, hvj⟩ := Ac (xs := vs) (i := j) oQ
  refine Qn 6 (fun v w'' => Wx.Sep no w0 w'' [Ck B4 #[.slice none 0 0, .slice none 0 0, .slice none 0 0, .slice none 0 0, .slice none 0 0, .slice none 0 0, .slice none 0 0, .slice none 0 0, .slice none 0 0, .slice none 0 0, .slice none 0 0] 38, Ms.Fq B18 r54 (On M) (ds.map Bj ++ [Bj x]), Ck B11 vs.toArray 38, Cf bk (Pv Vt 11), Db ((lists 36 19 Fact.cells vs (Xj [] ds)).set j (Al 36 19 Fact.cells v (Dw [] ds j ++ [x]))), Ck B14 x.cells 36]) kQ kQ kQ kQ kQ kQ rfl rfl rfl rfl rfl (HW.pp (.move (.t rfl)) (HW.pp (.move (.t rfl)) (HW.pp (.nilCheck (.t rfl)) (HW.pp (.ld isAgg23 rfl ((hS.blk 2 rfl).cell (by simpa using hvj))) (HW.pp (.la isAgg36 sizeOf36 rfl ((hS.blk 5 rfl).agg)) (HW.r (p := fun v w => Sl w v 19 (Fact.cells) [x]) (fun _ _ _ h u => Sl.up h u) rfl (fun w hu a ha => let ⟨v, w', h1, h2⟩ := REv.buildSlice (xs := [x]) (enc := Fact.cells) (mk := fun f : Fact => .agg f.cells) underlying23 sizeOf36 zeroValue36 rfl (Nat.le_of_ble_eq_true rfl) (fun _ => rfl) (fun _ => rfl) (.cons (.t rfl) .nil) rfl a ha; ⟨v, w', h1, h2.q⟩) rfl (HW.nil ⟨fun a w' hu ha => ?_, ?_⟩)))))))
  ·exact (REv.open (d := 73) (p := fun v w => Sl w v 19 Fact.cells [x]) rfl fun vv hv => (REv.A8 (bytes := 160) (i := Tryz.t36) underlying23 kQ rfl rfl rfl rfl cQ (fun _ => rfl) Fact.one (.t rfl) (.t rfl) (Jd ((hS.up hu).get 4 rfl) hvj (F2 _ _ hj11)) hv (by have := U1 [] ds j; simp only [List.length_cons, List.length_nil, maxLen]; omega) (by have := U1 [] ds j; simp only [List.length_cons, List.length_nil]; omega)).mono fun v' w'' h => (hS.up hu).Dh 4 rfl (Kq ((hS.up hu).get 4 rfl) (Li hvj (F2 _ _ hj11)) h)).y ha
  intro v74 w30 hS
  have hv1 : v74.oneCell' = true := by
   have h := hS.get 4 rfl
   rw [Om] at h
   exact Tp h (by rw [List.length_set, List.length_set, hvl, Ht]) v74 (List.mem_of_getElem? (i := j) (by rw [List.getElem?_set_self (by omega)]))
  refine LW.pp (.nilCheck (.t rfl)) (LW.E (.store sizeOf23 (.t rfl) (.t rfl) hv1 (hS.blk 2 rfl) (by simp; omega)) ?_)
  intro w31 Nw31
  have zw31 := Nw31.size
  replace hS := hS.Gf 2 rfl (by rw [qM] at Nw31; exact Nw31)
  refine LW.nil (KW.inBlock (KW.round ?_))
  exact ⟨(ds ++ [x], vs.set j v74), ⟨hds2, hdn2, by show (vs.set j v74).length = 11; rw [List.length_set]; exact hvl, by (rw [qK hgn hj11 hkj, ← Om, List.map_append]; exact hS.take 5)⟩, ⟨rfl, rfl, rfl, rfl, trivial⟩, by show M.length - (ds ++ [x]).length < M.length - ds.length; have := Re hds hdn hmem hfr; simp; omega⟩
end Go.Proofs.YtmimclgihlhaeaaGreat
namespace Go.Wx
theorem Rf {α : Type} {key : α → K2} {l s : List α} (h : l.Perm s) (hd : ∀ x ∈ l, ∀ y ∈ l, key x = key y → x = y) : D8 key l = D8 key s := by
 have hs : sameF key l s := fun k => by
   have hp := h.filter (fun x => key x == k)
   cases e : l.filter (fun x => key x == k) with
   | nil => rw [e] at hp; exact hp.symm.eq_nil
   | cons x r =>
     have all : ∀ y ∈ l.filter (fun x => key x == k), y = x := fun y hy => by
       have hx : x ∈ l.filter (fun x => key x == k) := by rw [e]; exact List.mem_cons_self
       rw [List.mem_filter] at hx hy
       exact hd _ hy.1 _ hx.1 ((eq_of_beq hy.2).trans (eq_of_beq hx.2).symm)
     have h1 : l.filter (fun x => key x == k) = List.replicate (l.filter (fun x => key x == k)).length x := List.eq_replicate_iff.2 ⟨rfl, all⟩
     have h2 : s.filter (fun x => key x == k) = List.replicate (l.filter (fun x => key x == k)).length x := List.eq_replicate_iff.2 ⟨hp.length_eq.symm, fun y hy => all y (hp.symm.subset hy)⟩
     rw [h2, ← h1, e]
 have : StS key l (D8 key s) := ⟨(E8 s).ord, hs.trans (E8 s).same⟩
 exact this.eq.symm
theorem Z7 {k : Int} {f g : Fact} (hf : A6 f = true) (hg : A6 g = true) (hkf : f.Kind = k) (hkg : g.Kind = k) (h : Kr k f = Kr k g) : Bj f = Bj g := by
 have hk := Ep hf
 rw [hkf] at hk
 unfold Bj Sv
 rw [if_pos hf, if_pos hg, hkf, hkg]
 have hc : k = 1 ∨ k = 2 ∨ k = 3 ∨ k = 4 ∨ k = 5 ∨ k = 6 ∨ k = 7 ∨ k = 8 ∨ k = 9 ∨ k = 10 ∨ k = 11 := by omega
 rcases hc with rfl | rfl | rfl | rfl | rfl | rfl | rfl | rfl | rfl | rfl | rfl
 · replace h : (f.ID, (0 : Int)) = (g.ID, (0 : Int)) := h
   show Ca [1, f.ID] = Ca [1, g.ID]
   rw [(Prod.mk.inj h).1]
 · replace h : (f.ID, (0 : Int)) = (g.ID, (0 : Int)) := h
   show Ca [2, f.ID] = Ca [2, g.ID]
   rw [(Prod.mk.inj h).1]
 · replace h : (f.ID, (0 : Int)) = (g.ID, (0 : Int)) := h
   show Ca [3, f.ID] = Ca [3, g.ID]
   rw [(Prod.mk.inj h).1]
 · replace h : (f.Wafer, f.Time) = (g.Wafer, g.Time) := h
   show Ca [4, f.Wafer, f.Time] = Ca [4, g.Wafer, g.Time]
   rw [(Prod.mk.inj h).1, (Prod.mk.inj h).2]
 · replace h : (f.Product, (0 : Int)) = (g.Product, (0 : Int)) := h
   show Ca [5, f.Product] = Ca [5, g.Product]
   rw [(Prod.mk.inj h).1]
 · replace h : (f.ID, (0 : Int)) = (g.ID, (0 : Int)) := h
   show Ca [6, f.ID] = Ca [6, g.ID]
   rw [(Prod.mk.inj h).1]
 · replace h : (f.ID, (0 : Int)) = (g.ID, (0 : Int)) := h
   show Ca [7, f.ID] = Ca [7, g.ID]
   rw [(Prod.mk.inj h).1]
 · replace h : (f.Other, f.Parties) = (g.Other, g.Parties) := h
   show Ca [8, f.Other, f.Parties] = Ca [8, g.Other, g.Parties]
   rw [(Prod.mk.inj h).1, (Prod.mk.inj h).2]
 · replace h : (f.ID, (0 : Int)) = (g.ID, (0 : Int)) := h
   show Ca [9, f.ID] = Ca [9, g.ID]
   rw [(Prod.mk.inj h).1]
 · replace h : (f.Recipe, f.Time) = (g.Recipe, g.Time) := h
   show Ca [10, f.Recipe, f.Time] = Ca [10, g.Recipe, g.Time]
   rw [(Prod.mk.inj h).1, (Prod.mk.inj h).2]
 replace h : (f.ID, (0 : Int)) = (g.ID, (0 : Int)) := h
 show Ca [11, f.ID] = Ca [11, g.ID]
 rw [(Prod.mk.inj h).1]
theorem Tr (m : E3) (k : List UInt8) (f : Fact) : (Kt m k f).map (·.1) = if k ∈ m.map (·.1) then m.map (·.1) else m.map (·.1) ++ [k] := by
 unfold Kt
 split
 · rw [List.map_map]
   apply List.map_congr_left
   intro p _
   simp only [Function.comp]
   split
   · rename_i e; exact e.symm
   rfl
 simp
theorem Rg {m : E3} (h : (m.map (·.1)).Nodup) (k : List UInt8) (f : Fact) : ((Kt m k f).map (·.1)).Nodup := by
 rw [Tr]
 split
 · exact h
 rename_i hn
 rw [List.nodup_append]
 exact ⟨h, by simp, fun a ha c hc => by cases List.mem_singleton.1 hc; exact fun e => hn (e ▸ ha)⟩
theorem Rh {m : E3} (h : (m.map (·.1)).Nodup) (day : Int) (f : Fact) : ((Ct day m f).map (·.1)).Nodup := by
 unfold Ct
 split
 · exact h
 split
 · exact Rg h _ _
 split
 · exact Rg h _ _
 exact h
theorem Mp (l : List Fact) (day : Int) : ((F8 l day).map (·.1)).Nodup := by
 have : ∀ (l : List Fact) (m : E3), (m.map (·.1)).Nodup → ((l.foldl (Ct day) m).map (·.1)).Nodup := by
   intro l
   induction l with
   | nil => exact fun m h => h
   | cons x l ih => exact fun m h => ih _ (Rh h day x)
 exact this l [] List.nodup_nil
theorem Tt {m : E3} (h : (m.map (·.1)).Nodup) {k : List UInt8} {f g : Fact} (hf : (k, f) ∈ m) (hg : (k, g) ∈ m) : f = g := by
 induction m with
 | nil => cases hf
 | cons p m ih =>
   rw [List.map_cons, List.nodup_cons] at h
   rcases List.mem_cons.1 hf with e | hf' <;> rcases List.mem_cons.1 hg with e' | hg'
   · rw [← e'] at e; cases e; rfl
   · exact absurd (List.mem_map.2 ⟨_, hg', by rw [← e]⟩) h.1
   · exact absurd (List.mem_map.2 ⟨_, hf', by rw [← e']⟩) h.1
   exact ih h.2 hf' hg'
def Hd (m : E3) : List Fact := m.map (·.2)
theorem Ia {m : E3} (h : MOk m) {f : Fact} : f ∈ Hd m ↔ (Bj f, f) ∈ m := by
 constructor
 · intro hf
   obtain ⟨⟨k, g⟩, hp, e⟩ := List.mem_map.1 hf
   have e : g = f := e
   subst e
   have := (h _ hp).1
   have this : k = Bj g := this
   rw [← this]; exact hp
 exact fun hf => List.mem_map.2 ⟨_, hf, rfl⟩
theorem Pg {m : E3} (h : MOk m) : (Hd m).map Bj = m.map (·.1) := by
 unfold Hd
 rw [List.map_map]
 apply List.map_congr_left
 intro p hp
 exact (h p hp).1.symm
theorem Hu {α β : Type} {f : α → β} : ∀ {l : List α}, (l.map f).Nodup → l.Nodup
 | [], _ => List.nodup_nil
 | x :: l, h => by
   rw [List.map_cons, List.nodup_cons] at h
   exact List.nodup_cons.2 ⟨fun hm => h.1 (List.mem_map.2 ⟨x, hm, rfl⟩), Hu h.2⟩
theorem G6 {α : Type} {l s : List α} (hl : l.Nodup) (hs : s.Nodup) (h : ∀ x, x ∈ l ↔ x ∈ s) : l.Perm s := (List.perm_ext_iff_of_nodup hl hs).2 h
theorem gL {ds : List Fact} {m : E3} (hm : MOk m) (hn : (m.map (·.1)).Nodup) (h : ∀ f ∈ ds, (Bj f, f) ∈ m) (hp : (ds.map Bj).Perm (m.map (·.1))) : ds.Perm (Hd m) := by
 refine G6 (Hu (f := Bj) (hp.nodup_iff.2 hn)) (Hu (f := Bj) (by rw [Pg hm]; exact hn)) fun x => ?_
 rw [Ia hm]
 refine ⟨h x, fun hx => ?_⟩
 obtain ⟨y, hy, e⟩ := List.mem_map.1 (hp.symm.subset (List.mem_map.2 ⟨_, hx, rfl⟩))
 have e : Bj y = Bj x := e
 have := h y hy
 rw [e] at this
 rw [Tt hn hx this]; exact hy
theorem Z8 {m : E3} (hm : MOk m) (hn : (m.map (·.1)).Nodup) {f g : Fact} (hf : f ∈ Hd m) (hg : g ∈ Hd m) (e : Bj f = Bj g) : f = g := by
 rw [Ia hm] at hf hg
 rw [e] at hf
 exact Tt hn hf hg
theorem Fi {m : E3} (hm : MOk m) (hn : (m.map (·.1)).Nodup) {ds : List Fact} (h : ds.Perm (Hd m)) (dn : List Int) (j : Nat) (hj : ((j + 1 : Nat) : Int) ∈ dn) : Dw dn ds j = Dw dn (Hd m) j := by
 unfold Dw
 rw [if_pos hj, if_pos hj]
 refine Rf (h.filter _) fun x hx y hy e => ?_
 rw [List.mem_filter] at hx hy
 have hxm := h.subset hx.1
 have hym := h.subset hy.1
 have vx := (hm _ ((Ia hm).1 hxm)).2
 have vy := (hm _ ((Ia hm).1 hym)).2
 simp only [Bool.and_eq_true, decide_eq_true_eq] at hx hy
 exact Z8 hm hn hxm hym (Z7 vx vy hx.2.2 hy.2.2 e)
def Ri (l : List Fact) (day : Int) : Base := Xk (Hd (F8 l day))
theorem uK {ds : List Fact} {l : List Fact} {day : Int} (h : ∀ f ∈ ds, (Bj f, f) ∈ F8 l day) (hp : (ds.map Bj).Perm ((F8 l day).map (·.1))) : Xk ds = Ri l day := by
 have hm := (U0 day l).1
 have hn := Mp l day
 have h1 := gL hm hn h hp
 unfold Ri Xk
 rw [Fi hm hn h1 [1] 0 cQ, Fi hm hn h1 [2] 1 cQ, Fi hm hn h1 [3] 2 cQ, Fi hm hn h1 [4] 3 cQ, Fi hm hn h1 [5] 4 cQ, Fi hm hn h1 [6] 5 cQ, Fi hm hn h1 [7] 6 cQ, Fi hm hn h1 [8] 7 cQ, Fi hm hn h1 [9] 8 cQ, Fi hm hn h1 [10] 9 cQ, Fi hm hn h1 [11] 10 (by decide)]
end Go.Wx
namespace Go.Proofs.YtmimclgihlhaeaaGreat
open Go.Proofs.Tryz
open Go.Wx Go.RowKit
theorem lE (ad : Option Addr) (cp : Nat) (l : List Fact) (day : Int) (w : World) (hE0 : Els w ad 19 Fact.cells l) (hl : l.length ≤ 100000) : Ret Tryz.prog 13 #[.slice ad l.length cp, vi day] w fun r w' => ∃ bc, r = .agg bc ∧ BaseC w' bc (Ri l day) ∧ Up w w' :=
 (qO ad cp l day w hE0 hl).mono fun _ _ ⟨bc, _, e, hB, h1, h2, _, _, u⟩ => ⟨bc, e, uK h1 h2 ▸ hB, u⟩
end Go.Proofs.YtmimclgihlhaeaaGreat
end
