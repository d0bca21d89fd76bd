import Derived.Test.YtmimclgihlhaeaaGreatKR78
section
namespace Go.Wx
def Jt (a b : Int) : Int := if a < b then -1 else if b < a then 1 else 0
def oU : List Int → Int
 | [] => 0
 | x :: l => if x = 0 then oU l else x
def W6 (p q : K2) : Int := oU [Jt p.1 q.1, Jt p.2 q.2]
theorem G5 (p q : K2) : decide (W6 p q < 0) = F7 p q := by
 unfold W6 oU oU oU Jt F7
 by_cases h1 : p.1 < q.1
 · simp [h1]
 by_cases h2 : q.1 < p.1
 · have : ¬ p.1 = q.1 := by omega
   simp [h1, h2, this]
 have e : p.1 = q.1 := by omega
 by_cases h3 : p.2 < q.2
 · simp [e, h3]
 by_cases h4 : q.2 < p.2
 · simp [e, h3, h4]
 simp [e, h3, h4]
theorem W7 {l : List Int} {k : Nat} {x : Int} (h : l[k]? = some x) : oU (l.drop k) = if x = 0 then oU (l.drop (k + 1)) else x := by
 obtain ⟨hk, e⟩ := List.getElem?_eq_some_iff.1 h
 rw [List.drop_eq_getElem_cons hk, e]; rfl
theorem kV (p : K2) : (#[vi p.1, vi p.2] : Array Go.Value).size = 2 ∧ (#[vi p.1, vi p.2] : Array Go.Value).all (·.oneCell') = true := by simp [Value.oneCell']
end Go.Wx
namespace Go.Proofs.YtmimclgihlhaeaaGreat
open Go.Proofs.Tryz
open Go.Wx Go.RowKit
theorem Tm (a : Int) (w : World) : Ret Tryz.prog 106 #[vi a] w fun r w' => r = .bool false ∧ Up w w' := by
 have hW := Up.refl w
 refine cS (n := 6) (m := 9) func106 rfl rfl rfl (CW.S (LW.C (LW.S (CW.region (LW.M rfl (LW.M rfl (LW.pp (.fa (PEv.neq (.t rfl) (.t rfl)) (by simp)) (LW.A rfl (LW.T (CW.ret (Ae rfl rfl ⟨_, rfl, ?_⟩)))))))))))
 exact ⟨rfl, hW⟩
theorem Ju (a b : Int) (w : World) : Ret Tryz.prog 50 #[vi a, vi b] w fun r w' => r = vi (Jt a b) ∧ Up w w' := by
 have hW := Up.refl w
 refine cS (n := 20) (m := 9) func50 rfl rfl rfl (CW.S (LW.C (LW.S (CW.region (LW.M rfl (LW.K (eC (.o rfl) (cE)) rfl (Tm _ _) ?_))))))
 rintro _ w1 ⟨rfl, uw1⟩
 replace hW := hW.up uw1
 refine LW.A rfl (LW.S (CW.region (LW.M rfl (LW.K (eC (.o rfl) (cE)) rfl (Tm _ _) ?_))))
 rintro _ w2 ⟨rfl, uw2⟩
 replace hW := hW.up uw2
 refine LW.A rfl (LW.S (CW.S (LW.M rfl (LW.T (CW.cond_false (.t rfl) (CW.skip (KW.then (CW.seq (CW.S (LW.M rfl (LW.T (CW.cond_false (.t rfl) (CW.skip (KW.then (CW.seq (CW.S (LW.M rfl (LW.M rfl (LW.pp (.lss (.t rfl) (.t rfl)) (LW.T (CW.cond (.t rfl) (fun h16 => ?_) (fun h16 => ?_))))))))))))))))))))))
 ·replace h16 := dQ h16
  refine CW.S (LW.C (LW.T (CW.ret (Af (Ae rfl rfl ⟨_, rfl, ?_⟩)))))
  refine ⟨congrArg vi ?_, hW⟩
  unfold Jt
  (rw [if_pos (by omega)])
 replace h16 := dQ h16
 refine CW.skip (KW.then (CW.seq (CW.S (LW.M rfl (LW.M rfl (LW.pp (.gtr (.t rfl) (.t rfl)) (LW.T (CW.cond (.t rfl) (fun h19 => ?_) (fun h19 => ?_)))))))))
 ·replace h19 := dQ h19
  refine CW.S (LW.C (LW.T (CW.ret (Af (Ae rfl rfl ⟨_, rfl, ?_⟩)))))
  refine ⟨congrArg vi ?_, hW⟩
  unfold Jt
  (rw [if_neg oQ, if_pos (by omega)])
 replace h19 := dQ h19
 refine CW.skip (KW.then (CW.S (LW.C (LW.T (CW.ret (Ae rfl rfl ⟨_, rfl, ?_⟩))))))
 refine ⟨congrArg vi ?_, hW⟩
 unfold Jt
 (rw [if_neg oQ, if_neg (by omega)])
theorem kW (ad : Option Addr) (cp : Nat) (l : List Int) (w : World) (hE0 : Els w ad 1 Aq l) (hl : l.length ≤ 1000) : Ret Tryz.prog 49 #[.slice ad l.length cp] w fun r w' => r = vi (oU l) ∧ Up w w' := by
 have hW := Up.refl w
 obtain ⟨w0, rfl⟩ : ∃ w0, w0 = w := ⟨_, rfl⟩
 refine cS (n := 18) (m := 9) func49 rfl rfl rfl (CW.S (LW.C (LW.S (CW.region (LW.C (LW.S (CW.S (LW.M rfl (LW.pp (.Ci underlying30 (.t rfl)) (LW.pp (.move (.const _)) (LW.T (CW.block (Am (σ := Nat) (fun s w => (s ≤ l.length) ∧ (oU l = oU (l.drop s)) ∧ (Up w0 w)) (fun s => [(8, .eq (vi (s : Int)))]) ([(3, .eq _), (6, .eq _), (7, .eq _)]) (fun s => l.length - s) 0 ?_ ⟨rfl, rfl, rfl, rfl, trivial⟩ ?_)))))))))))))
 ·exact ⟨Nat.zero_le _, rfl, Up.refl _⟩
 rintro k w1 ⟨hkk, hor, hL1⟩
 replace hW := hW.up hL1
 refine CW.S (LW.pp (.lss (.t rfl) (.t rfl)) (LW.S (CW.cond (.t rfl) (fun h9 => ?_) (fun h9 => ?_))))
 ·refine CW.skip (KW.then (CW.seq (CW.block (CW.seq ?_))))
  have hE := Els.up hE0 hW
  have hkl : k < l.length := by simp at h9; omega
  refine CW.region ?_
  obtain ⟨x, hx⟩ := Ac (xs := l) (i := k) oQ
  obtain ⟨Bx, ox, ax, hcx⟩ := hE _ x hx
  refine LW.pp (.Aj underlying30 sizeOf3 (.t rfl) (.t rfl) oQ ax) (LW.pp (.ld isAgg3 rfl (hcx.nth (j := 0) rfl)) (LW.A rfl (LW.S (CW.region (LW.M rfl (LW.M rfl (LW.pp (.neq (.t rfl) (.t rfl)) (LW.T (CW.cond (.t rfl) (fun h14 => ?_) (fun h14 => ?_))))))))))
  ·refine CW.S (LW.M rfl (LW.A rfl (LW.T (CW.ret (An (Af (Af (An (Af (Ae rfl rfl ⟨_, rfl, ?_⟩))))))))))
   refine ⟨congrArg vi ?_, hW⟩
   rw [hor]
   (rw [W7 hx, if_neg (by simpa using h14)])
  refine CW.skip (KW.inBlock (KW.then (CW.region (LW.pp (.inc (.t rfl) oQ) (LW.M rfl (LW.nil (KW.round ?_)))))))
  exact ⟨k + 1, ⟨by omega, by rw [hor, W7 hx, if_pos (by simpa using h14)], hL1⟩, ⟨rfl, rfl, rfl, rfl, trivial⟩, by omega⟩
 refine CW.exit (Aa (Aa (Ad (KW.then (CW.S (LW.M rfl (LW.A rfl (LW.T (CW.ret (Ae rfl rfl ⟨_, rfl, ?_⟩))))))))))
 refine ⟨congrArg vi ?_, hW⟩
 rw [hor]
 (rw [List.drop_eq_nil_of_le (by simp at h9; omega)]; rfl)
theorem gD (of : Nat) (key : Fact → K2) (hen : ∀ args w, (callFunc of args).run Tryz.prog w = .ok (.enter of args) w) (hord : ∀ W x, Ret Tryz.prog of #[.agg x.cells] W fun r W' => r = .agg #[vi (key x).1, vi (key x).2] ∧ Up W W') (a b : Fact) (Bc : Nat) (w : World) (hC0 : Blk w Bc #[.func (.func of) #[] #[]] 74) : Ret Tryz.prog 86 #[.agg a.cells, .agg b.cells, .pointer (some ⟨Bc, 0, none⟩)] w fun r w' => r = vi (W6 (key a) (key b)) ∧ Up w w' := by
 have hW := Up.refl w
 have hC := hC0
 refine cS (n := 26) (m := 9) func86 rfl rfl rfl (CW.S (Ah (.C7 (.t rfl)) rfl ?_))
 rintro _ w1 ⟨B3, rfl, NB3⟩
 replace hW := hW.up NB3.up
 replace hC := hC.up NB3.up
 have hB3 := NB3.blk
 refine Ah (.C7 (.t rfl)) rfl ?_
 rintro _ w2 ⟨B4, rfl, NB4⟩
 replace hW := hW.up NB4.up
 replace hC := hC.up NB4.up
 replace hB3 := hB3.up NB4.up
 have hB4 := NB4.blk
 refine LW.C (LW.S (CW.vars 10 [⟨6, 8, 2, 6, 10⟩, ⟨7, 9, 5, 7, 13⟩] #[vi 0, vi 0] [.eq (.func (.func of) #[] #[]), .eq (.agg a.cells), .eq (.agg #[vi (key a).1, vi (key a).2]), .eq (.func (.func of) #[] #[]), .eq (.agg b.cells), .eq (.agg #[vi (key b).1, vi (key b).2]), .pred fun v _ => ∃ B, v = .pointer (some ⟨B, 0, none⟩), .pred fun v _ => ∃ B, v = .pointer (some ⟨B, 0, none⟩), .eq undef, .eq undef] [6, 7] zeroValue99 sizeOf99 kQ rfl kQ kQ kQ kQ kQ kQ kQ kQ cQ kQ kQ ?_ ?_ ⟨PhT.eq _ _, PhT.eq _ _, PhT.eq _ _, PhT.eq _ _, PhT.eq _ _, PhT.eq _ _, PhT.pred fun _ _ _ h _ => h, PhT.pred fun _ _ _ h _ => h, PhT.eq _ _, PhT.eq _ _, trivial⟩ ?_ ?_ ?_ ?_ ?_))
 ·intro v hv; simp only [List.mem_cons, List.mem_nil_iff, or_false] at hv; rcases hv with rfl | rfl <;> exact ⟨_, _, _, rfl⟩
 ·intro v hv; simp only [List.mem_cons, List.mem_nil_iff, or_false] at hv; rcases hv with rfl | rfl <;> exact ⟨_, _, _, rfl⟩
 ·intro v hv; simp only [List.mem_cons, List.mem_nil_iff, or_false] at hv; rcases hv with rfl | rfl <;> (intro o ho; cases ho; rfl)
 ·intro v hv; simp only [List.mem_cons, List.mem_nil_iff, or_false] at hv; rcases hv with rfl | rfl
  ·exact fun v W h => ⟨_, h, rfl, (kV (key a)).2⟩
  exact fun v W h => ⟨_, h, rfl, (kV (key b)).2⟩
 ·intro v hv; simp only [List.mem_cons, List.mem_nil_iff, or_false] at hv; rcases hv with rfl | rfl <;> exact fun B W => ⟨B, rfl⟩
 ·intro W hK0
  have hK := (Up.drew w2).C9.trans hK0
  have hCW := Blk.C9 hC (T := 99) rfl hK
  have hB3W := Blk.C9 hB3 (T := 99) rfl hK
  have hB4W := Blk.C9 hB4 (T := 99) rfl hK
  refine aC (.inr ⟨rfl, TU.p (.ld isAgg74 rfl (hCW.Ai rfl)) rfl⟩) (aC (.inr ⟨rfl, TU.p (.la isAgg36 sizeOf36 rfl (hB3W.agg)) rfl⟩) (aC (.inr ⟨rfl, TU.c (C0 (.t rfl) (.cons (.t rfl) .nil) hen) (hord _ a) sQ⟩) (aC (.inr ⟨rfl, TU.p (.ld isAgg74 rfl (hCW.Ai rfl)) rfl⟩) (aC (.inr ⟨rfl, TU.p (.la isAgg36 sizeOf36 rfl (hB4W.agg)) rfl⟩) (aC (.inr ⟨rfl, TU.c (C0 (.t rfl) (.cons (.t rfl) .nil) hen) (hord _ b) sQ⟩) (aC (.inl (by simp)) (aC (.inl (by simp)) (aC (.inl (by simp)) (aC (.inl (by simp)) ?_)))))))))
  exact allL.nil
 intro wT g hU0 hbl hpw hg
 have hU := (Up.drew w2).trans hU0
 obtain ⟨B6, e6, z6, hB6⟩ := hbl ⟨6, 8, 2, 6, 10⟩ (by simp)
 obtain ⟨B7, e7, z7, hB7⟩ := hbl ⟨7, 9, 5, 7, 13⟩ (by simp)
 have e10 : g 10 = .agg #[vi (key a).1, vi (key a).2] := hg 2 _ 10 cQ rfl rfl
 have e13 : g 13 = .agg #[vi (key b).1, vi (key b).2] := hg 5 _ 13 cQ rfl rfl
 replace e6 : g 6 = .pointer (some ⟨B6, 0, none⟩) := e6
 replace e7 : g 7 = .pointer (some ⟨B7, 0, none⟩) := e7
 change LW _ _ _ _ _ _ _ _ ((6, .eq (g 6)) :: (7, .eq (g 7)) :: _) _
 rw [e6, e7]
 rw [e10] at hB6
 rw [e13] at hB7
 replace hB6 : Blk wT B6 #[vi (key a).1, vi (key a).2] 99 := hB6
 replace hB7 : Blk wT B7 #[vi (key b).1, vi (key b).2] 99 := hB7
 replace hW := hW.trans hU
 refine LW.S (Fl 11 [.eq (.pointer (some ⟨B6, 0, none⟩)), .eq (vi (key a).1), .eq (.pointer (some ⟨B7, 0, none⟩)), .eq (vi (key b).1), .eq (vi (Jt (key a).1 (key b).1)), .eq (.pointer (some ⟨B6, 1, none⟩)), .eq (vi (key a).2), .eq (.pointer (some ⟨B7, 1, none⟩)), .eq (vi (key b).2), .eq (vi (Jt (key a).2 (key b).2)), .pred (fun v w => SlT 3 w v 1 Aq [Jt (key a).1 (key b).1, Jt (key a).2 (key b).2])] [24] kQ rfl kQ kQ kQ kQ kQ kQ kQ ⟨PhU.eq _, PhU.eq _, PhU.eq _, PhU.eq _, PhU.eq _, PhU.eq _, PhU.eq _, PhU.eq _, PhU.eq _, PhU.eq _, PhU.pred fun _ _ _ h u => SlT.Fu h u.Fu, trivial⟩ ?_ ?_)
 ·intro W hU0
  have hU := (Up.drew wT).trans hU0
  refine aC ⟨rfl, TU.p (.Bk (j := 0) underlying99 sizeOf3 (.t rfl) (.const _) cQ) rfl⟩ (aC ⟨rfl, TU.p (.ld isAgg3 rfl ((hB6.up hU).Ai rfl)) rfl⟩ (aC ⟨rfl, TU.p (.Bk (j := 0) underlying99 sizeOf3 (.t rfl) (.const _) cQ) rfl⟩ (aC ⟨rfl, TU.p (.ld isAgg3 rfl ((hB7.up hU).Ai rfl)) rfl⟩ (aC ⟨rfl, TU.c (eC (.u rfl rfl) (eZ)) (Ju _ _ _) sQ⟩ (aC ⟨rfl, TU.p (.Bk (j := 1) underlying99 sizeOf3 (.t rfl) (.const _) cQ) rfl⟩ (aC ⟨rfl, TU.p (.ld isAgg3 rfl ((hB6.up hU).Ai rfl)) rfl⟩ (aC ⟨rfl, TU.p (.Bk (j := 1) underlying99 sizeOf3 (.t rfl) (.const _) cQ) rfl⟩ (aC ⟨rfl, TU.p (.ld isAgg3 rfl ((hB7.up hU).Ai rfl)) rfl⟩ (aC ⟨rfl, TU.c (eC (.u rfl rfl) (eZ)) (Ju _ _ _) sQ⟩ (aC ⟨rfl, TU.r (REv.buildSlice (xs := [Jt (key a).1 (key b).1, Jt (key a).2 (key b).2]) (enc := Aq) (mk := vi) underlying30 sizeOf3 zeroValue3 rfl cQ (fun _ => rfl) (fun _ => rfl) (.cons (.t rfl) (.cons (.t rfl) .nil)) rfl) (by rintro _ W1 ⟨B, c, rfl, N, y, x⟩; exact ⟨N.up, SlT.lit ⟨B, c, rfl, N, y, x⟩⟩)⟩ ?_))))))))))
  exact allL.nil
 intro w3 g hU0 hg
 have hU := (Up.drew wT).trans hU0
 replace hW := hW.up hU
 replace hB6 := hB6.up hU
 replace hB7 := hB7.up hU
 obtain ⟨⟨ad, cp, e24, hE⟩, _⟩ := hg 10 _ 24 cQ rfl rfl
 change LW _ _ _ _ _ _ _ _ ((24, .eq (g 24)) :: _) _
 rw [e24]
 refine LW.K (eC (.o rfl) (tA)) rfl (kW ad cp _ _ hE (by simp)) ?_
 rintro _ w4 ⟨rfl, uw4⟩
 replace hW := hW.up uw4
 replace hB6 := hB6.up uw4
 replace hB7 := hB7.up uw4
 refine LW.A rfl (LW.T (CW.ret (Ae rfl rfl ⟨_, rfl, ?_⟩)))
 exact ⟨rfl, hW⟩
end Go.Proofs.YtmimclgihlhaeaaGreat
namespace Go.Proofs.YtmimclgihlhaeaaGreat
open Go.Proofs.Tryz
open Go.Wx Go.RowKit
inductive TN (n : Nat) : Prop | mk
abbrev tN {n : Nat} (_ : TN n) : Nat := n
theorem W8 (v : Bool) : ∀ args w, (callFunc (bif v then 142 else 189) args).run Tryz.prog w = .ok (.enter (bif v then 142 else 189) args) w := by cases v; exact yN; exact V9
theorem W9 (v : Bool) : ∀ args w, (callFunc (bif v then 173 else 197) args).run Tryz.prog w = .ok (.enter (bif v then 173 else 197) args) w := by cases v; exact yP; exact S7
theorem Xa (v : Bool) : ∀ args w, (callFunc (bif v then 174 else 198) args).run Tryz.prog w = .ok (.enter (bif v then 174 else 198) args) w := by cases v; exact yQ; exact Ql
theorem kX (v : Bool) : ∀ args w, (callFunc (bif v then 192 else 201) args).run Tryz.prog w = .ok (.enter (bif v then 192 else 201) args) w := by cases v; exact yR; exact jL
theorem kY (v : Bool) : ∀ args w, (callFunc (bif v then 199 else 202) args).run Tryz.prog w = .ok (.enter (bif v then 199 else 202) args) w := by cases v; exact yS; exact Wa
theorem Q6 (v : Bool) : Tryz.prog.funcs[(bif v then 142 else 189)]? = some (bif v then f142 else f189) := by cases v; exact func189; exact func142
theorem Q7 (v : Bool) : Tryz.prog.funcs[(bif v then 173 else 197)]? = some (bif v then f173 else f197) := by cases v; exact func197; exact func173
theorem Z0 (v : Bool) : Tryz.prog.funcs[(bif v then 174 else 198)]? = some (bif v then f174 else f198) := by cases v; exact func198; exact func174
theorem Z1 (v : Bool) : Tryz.prog.funcs[(bif v then 192 else 201)]? = some (bif v then f192 else f201) := by cases v; exact func201; exact func192
theorem Z2 (v : Bool) : Tryz.prog.funcs[(bif v then 199 else 202)]? = some (bif v then f199 else f202) := by cases v; exact func202; exact func199
theorem Tn (v : Bool) : Tryz.prog.funcs[(bif v then 85 else 163)]? = some (bif v then f85 else f163) := by cases v; exact func163; exact func85
theorem Mj (v : Bool) : ∀ w, (isAgg (bif v then 36 else 198)).run Tryz.prog w = .ok true w := by cases v; exact isAgg198; exact isAgg36
theorem Kl (v : Bool) : ∀ w, (Go.sizeOf (bif v then 36 else 198)).run Tryz.prog w = .ok 19 w := by cases v; exact sizeOf198; exact sizeOf36
theorem E5 (v : Bool) : Tryz.prog.underlying (bif v then 23 else 196) = some (.slice (bif v then 36 else 198)) := by cases v; exact underlying196; exact underlying23
set_option maxHeartbeats 600000 in
theorem Fw (v : Bool) (a b n : Nat) (fv : Go.Value) (g m cp : Nat) (xs : List Fact) (w : World) (ho : OwnS w 0 (bif v then 36 else 198) 19 Fact.cells (.slice (some ⟨g, 0, none⟩) m cp) xs) (h63 : m ≤ 1000000000) (h1 : a + n ≤ b) (h2 : b + n ≤ m) : Ret Tryz.prog (bif v then 199 else 202) #[.slice (some ⟨g, 0, none⟩) m cp, vi (a : Int), vi (b : Int), vi (n : Int), fv] w fun r w' => r = .tuple #[] ∧ Stp (Al (bif v then 36 else 198) 19 Fact.cells (.slice (some ⟨g, 0, none⟩) m cp) (xs)) (Al (bif v then 36 else 198) 19 Fact.cells (.slice (some ⟨g, 0, none⟩) m cp) (Sg xs a b n)) w w' := by
 have TY0 : TN (bif v then 36 else 198) := ⟨⟩
 have func199 := Z2 v
 have isAgg36 := Mj v
 have sizeOf36 := Kl v
 have underlying23 := E5 v
 cases v <;> dsimp only [cond] at *
 all_goals
  obtain ⟨w0, rfl⟩ : ∃ w0, w0 = w := ⟨_, rfl⟩
  have hxl := ho.len
  have hS : Wx.Sep (Al (tN TY0) 19 Fact.cells (.slice (some ⟨g, 0, none⟩) m cp) (xs)).foot w0 w0 [Al (tN TY0) 19 Fact.cells (.slice (some ⟨g, 0, none⟩) m cp) (xs)] := Sep.cons ho (fun _ h => h) (Sep.start _ _) (by simp)
  refine cS (n := 38) (m := 9) func199 rfl rfl rfl (CW.S (LW.C (LW.T (CW.block (Am (σ := Nat) (fun s w => (s ≤ n) ∧ (Wx.Sep (Al (tN TY0) 19 Fact.cells (.slice (some ⟨g, 0, none⟩) m cp) (xs)).foot w0 w [Al (tN TY0) 19 Fact.cells (.slice (some ⟨g, 0, none⟩) m cp) (Sg xs a b s)])) (fun s => [(10, .eq (vi (s : Int)))]) ([(0, .eq _), (1, .eq _), (2, .eq _), (3, .eq _)]) (fun s => n - s) 0 ?_ ⟨rfl, rfl, rfl, rfl, rfl, trivial⟩ ?_)))))
  ·exact ⟨Nat.zero_le _, hS⟩
  rintro i w1 ⟨hin, hS⟩
  refine CW.seq (CW.S (LW.M rfl (LW.M rfl (LW.pp (.lss (.t rfl) (.t rfl)) (LW.T (CW.cond (.t rfl) (fun h13 => ?_) (fun h13 => ?_)))))))
  ·refine CW.skip (KW.then (CW.seq (CW.block ?_)))
   have hil : i < n := by simp at h13; omega
   have hsl := Fg xs a b i
   obtain ⟨x, hx⟩ := Ac (xs := Sg xs a b i) (i := a + i) oQ
   obtain ⟨y, hy⟩ := Ac (xs := Sg xs a b i) (i := b + i) oQ
   refine Js 21 23 [.slice (some ⟨g, 0, none⟩) m cp, vi ((a : Nat) : Int), vi ((i : Nat) : Int), vi ((a + i : Nat) : Int), .slice (some ⟨g, 0, none⟩) m cp, vi ((b : Nat) : Int), vi ((i : Nat) : Int), vi ((b + i : Nat) : Int), .slice (some ⟨g, 0, none⟩) m cp, vi ((b : Nat) : Int), vi ((i : Nat) : Int), vi ((b + i : Nat) : Int), .pointer (some ⟨g, 0 + (b + i) * 19, none⟩), .agg (Fact.cells y), .slice (some ⟨g, 0, none⟩) m cp, vi ((a : Nat) : Int), vi ((i : Nat) : Int), vi ((a + i : Nat) : Int), .pointer (some ⟨g, 0 + (a + i) * 19, none⟩), .agg (Fact.cells x), .pointer (some ⟨g, 0 + (a + i) * 19, none⟩), undef, .pointer (some ⟨g, 0 + (b + i) * 19, none⟩), undef] (fun W => Wx.Sep (Al (tN TY0) 19 Fact.cells (.slice (some ⟨g, 0, none⟩) m cp) (xs)).foot w0 W [Al (tN TY0) 19 Fact.cells (.slice (some ⟨g, 0, none⟩) m cp) (Sg xs a b i)]) (fun W => Wx.Sep (Al (tN TY0) 19 Fact.cells (.slice (some ⟨g, 0, none⟩) m cp) (xs)).foot w0 W [Al (tN TY0) 19 Fact.cells (.slice (some ⟨g, 0, none⟩) m cp) ((Sg xs a b i).set (a + i) y)]) (fun W => Wx.Sep (Al (tN TY0) 19 Fact.cells (.slice (some ⟨g, 0, none⟩) m cp) (xs)).foot w0 W [Al (tN TY0) 19 Fact.cells (.slice (some ⟨g, 0, none⟩) m cp) (((Sg xs a b i).set (a + i) y).set (b + i) x)]) kQ rfl kQ kQ kQ kQ kQ kQ (hS.up (Up.drew _)) ?_ _ _ rfl rfl ⟨rfl, rfl⟩ ⟨rfl, rfl⟩ ?_ ?_ ?_
   ·refine aC (.inr ⟨rfl, .inr fun W => PEv.move (.t rfl)⟩) (aC (.inr ⟨rfl, .inr fun W => PEv.move (.t rfl)⟩) (aC (.inr ⟨rfl, .inr fun W => PEv.move (.t rfl)⟩) (aC (.inr ⟨rfl, .inr fun W => PEv.Nd (.t rfl) (.t rfl) oQ⟩) (aC (.inr ⟨rfl, .inr fun W => PEv.move (.t rfl)⟩) (aC (.inr ⟨rfl, .inr fun W => PEv.move (.t rfl)⟩) (aC (.inr ⟨rfl, .inr fun W => PEv.move (.t rfl)⟩) (aC (.inr ⟨rfl, .inr fun W => PEv.Nd (.t rfl) (.t rfl) oQ⟩) (aC (.inr ⟨rfl, .inr fun W => PEv.move (.t rfl)⟩) (aC (.inr ⟨rfl, .inr fun W => PEv.move (.t rfl)⟩) (aC (.inr ⟨rfl, .inr fun W => PEv.move (.t rfl)⟩) (aC (.inr ⟨rfl, .inr fun W => PEv.Nd (.t rfl) (.t rfl) oQ⟩) (aC (.inr ⟨rfl, .inr fun W => PEv.indexAddr underlying23 sizeOf36 (.t rfl) (.t rfl) oQ⟩) (aC (.inr ⟨rfl, .inl ⟨by kernel_rfl, fun W hS => PEv.la isAgg36 sizeOf36 rfl ((hS.own 0 rfl).at (fun _ => rfl) hy)⟩⟩) (aC (.inr ⟨rfl, .inr fun W => PEv.move (.t rfl)⟩) (aC (.inr ⟨rfl, .inr fun W => PEv.move (.t rfl)⟩) (aC (.inr ⟨rfl, .inr fun W => PEv.move (.t rfl)⟩) (aC (.inr ⟨rfl, .inr fun W => PEv.Nd (.t rfl) (.t rfl) oQ⟩) (aC (.inr ⟨rfl, .inr fun W => PEv.indexAddr underlying23 sizeOf36 (.t rfl) (.t rfl) oQ⟩) (aC (.inr ⟨rfl, .inl ⟨by kernel_rfl, fun W hS => PEv.la isAgg36 sizeOf36 rfl ((hS.own 0 rfl).at (fun _ => rfl) hx)⟩⟩) (aC (.inr ⟨rfl, .inr fun W => PEv.indexAddr underlying23 sizeOf36 (.t rfl) (.t rfl) oQ⟩) (aC (.inl (by simp)) (aC (.inr ⟨rfl, .inr fun W => PEv.indexAddr underlying23 sizeOf36 (.t rfl) (.t rfl) oQ⟩) (aC (.inl (by simp)) ?_)))))))))))))))))))))))
    exact allL.nil
   ·intro W hS
    exact SEv.mono (SEv.Fp (i := a + i) (z := y) sizeOf36 (fun _ => rfl) Fact.one (.t rfl) (.t rfl) (hS.own 0 rfl) oQ) (fun _ h => hS.Dh 0 rfl h)
   ·intro W hS
    exact SEv.mono (SEv.Fp (i := b + i) (z := x) sizeOf36 (fun _ => rfl) Fact.one (.t rfl) (.t rfl) (hS.own 0 rfl) oQ) (fun _ h => hS.Dh 0 rfl h)
   intro w2 hS
   have hS : Wx.Sep (Al (tN TY0) 19 Fact.cells (.slice (some ⟨g, 0, none⟩) m cp) (xs)).foot w0 w2 [Al (tN TY0) 19 Fact.cells (.slice (some ⟨g, 0, none⟩) m cp) (((Sg xs a b i).set (a + i) y).set (b + i) x)] := hS
   refine KW.inBlock (KW.then (CW.region (LW.M rfl (LW.pp (.inc (.t rfl) oQ) (LW.A rfl (LW.nil (KW.round ?_)))))))
   exact ⟨i + 1, ⟨by omega, by rw [Sg, Uy hx hy]; exact hS⟩, ⟨rfl, rfl, rfl, rfl, rfl, trivial⟩, by omega⟩
  refine CW.exit (Aa (Aa (Ad (Dl rfl ⟨_, rfl, ?_⟩))))
  have hin2 : i = n := by simp at h13; omega
  subst hin2
  exact ⟨rfl, ⟨hS.fr, hS.get 0 rfl, fun _ h => .inl h⟩⟩
end Go.Proofs.YtmimclgihlhaeaaGreat
namespace Go.Proofs.YtmimclgihlhaeaaGreat
open Go.Proofs.Tryz
open Go.Wx Go.RowKit
set_option maxHeartbeats 600000 in
theorem Ml (v : Bool) (a mm b : Nat) (fv : Go.Value) (g m cp : Nat) (xs : List Fact) (w : World) (ho : OwnS w 0 (bif v then 36 else 198) 19 Fact.cells (.slice (some ⟨g, 0, none⟩) m cp) xs) (h63 : m ≤ 1000000000) (h1 : a < mm) (h2 : mm < b) (h3 : b ≤ m) : Ret Tryz.prog (bif v then 192 else 201) #[.slice (some ⟨g, 0, none⟩) m cp, vi (a : Int), vi (mm : Int), vi (b : Int), fv] w fun r w' => r = .tuple #[] ∧ Stp (Al (bif v then 36 else 198) 19 Fact.cells (.slice (some ⟨g, 0, none⟩) m cp) (xs)) (Al (bif v then 36 else 198) 19 Fact.cells (.slice (some ⟨g, 0, none⟩) m cp) (I7 xs a mm b)) w w' := by
 have TY0 : TN (bif v then 36 else 198) := ⟨⟩
 have Wa := kY v
 have func192 := Z1 v
 have Fw := @Fw v
 cases v <;> dsimp only [cond] at *
 all_goals
  obtain ⟨w0, rfl⟩ : ∃ w0, w0 = w := ⟨_, rfl⟩
  have hxl := ho.len
  have hS : Wx.Sep (Al (tN TY0) 19 Fact.cells (.slice (some ⟨g, 0, none⟩) m cp) (xs)).foot w0 w0 [Al (tN TY0) 19 Fact.cells (.slice (some ⟨g, 0, none⟩) m cp) (xs)] := Sep.cons ho (fun _ h => h) (Sep.start _ _) (by simp)
  refine cS (n := 58) (m := 9) func192 rfl rfl rfl (CW.S (LW.M rfl (LW.M rfl (LW.pp (.Mf (.t rfl) (.t rfl) oQ oQ) (LW.A rfl (LW.S (CW.region (LW.M rfl (LW.M rfl (LW.pp (.Mf (.t rfl) (.t rfl) oQ oQ) (LW.A rfl (LW.S (CW.block (Am (σ := Nat × Nat × List Fact) (fun s w => (0 < s.1 ∧ 0 < s.2.1 ∧ s.1 ≤ mm - a ∧ s.2.1 ≤ b - mm) ∧ (s.2.2.length = m) ∧ (I7 s.2.2 (mm - s.1) mm (mm + s.2.1) = I7 xs a mm b) ∧ (Wx.Sep (Al (tN TY0) 19 Fact.cells (.slice (some ⟨g, 0, none⟩) m cp) (xs)).foot w0 w [Al (tN TY0) 19 Fact.cells (.slice (some ⟨g, 0, none⟩) m cp) (s.2.2)])) (fun s => [(10, .eq (vi (s.1 : Int))), (11, .eq (vi (s.2.1 : Int)))]) ([(0, .eq _), (2, .eq _), (4, .eq _)]) (fun s => s.1 + s.2.1) (mm - a, b - mm, xs) ?_ ⟨rfl, rfl, rfl, rfl, rfl, trivial⟩ ?_))))))))))))))
  ·exact ⟨⟨by show 0 < mm - a; omega, by show 0 < b - mm; omega, Nat.le_refl _, Nat.le_refl _⟩, hxl, by rw [show mm - (mm - a) = a by omega, show mm + (b - mm) = b by omega], hS⟩
  rintro ⟨i, j, ys⟩ w1 ⟨hij, hyl, hrt, hS⟩
  dsimp only at hij hyl hrt hS
  change CW _ _ _ _ _ _ _ ([(10, .eq (vi (i : Int))), (11, .eq (vi (j : Int)))] ++ _) _
  refine CW.seq (CW.S (LW.M rfl (LW.M rfl (LW.pp (.neq (.t rfl) (.t rfl)) (LW.T (CW.cond (.t rfl) (fun h20 => ?_) (fun h20 => ?_)))))))
  ·replace h20 := dQ h20
   have hne0 : ¬ ((i : Int) = j) := by simpa using h20
   have hne : i ≠ j := by omega
   refine CW.skip (KW.then (CW.block (CW.S (LW.M rfl (LW.M rfl (LW.pp (.gtr (.t rfl) (.t rfl)) (LW.T (CW.cond (.t rfl) (fun h23 => ?_) (fun h23 => ?_)))))))))
   ·replace h23 := dQ h23
    refine CW.S (LW.M rfl (LW.M rfl (LW.M rfl (LW.pp (.Mf (.t rfl) (.t rfl) oQ oQ) (LW.M rfl (LW.M rfl (LW.M rfl (LW.K (eC (.cons (.t rfl) (.cons (.t rfl) (.cons (.t rfl) (.cons (.t rfl) (.cons (.t rfl) .nil))))) (Wa)) rfl (Fw (mm - i) mm j _ g m cp ys _ (hS.own 0 rfl) h63 oQ oQ) ?_))))))))
    rintro _ w2 ⟨rfl, uw2⟩
    replace hS := hS.Dh 0 rfl uw2
    refine LW.T (CW.region (LW.M rfl (LW.M rfl (LW.pp (.Mf (.t rfl) (.t rfl) oQ oQ) (LW.A rfl (LW.nil (KW.inBlock (KW.round ?_))))))))
    exact ⟨(i - j, j, Sg ys (mm - i) mm j), ⟨⟨by show 0 < i - j; omega, by show 0 < j; omega, by show i - j ≤ mm - a; omega, by show j ≤ b - mm; omega⟩, by rw [Fg]; exact hyl, by rw [← hrt]; exact qC oQ oQ oQ oQ, hS⟩, ⟨rfl, rfl, rfl, rfl, rfl, trivial⟩, by (dsimp only; omega)⟩
   replace h23 := dQ h23
   refine CW.S (LW.M rfl (LW.M rfl (LW.M rfl (LW.pp (.Mf (.t rfl) (.t rfl) oQ oQ) (LW.M rfl (LW.M rfl (LW.pp (.Nd (.t rfl) (.t rfl) oQ) (LW.M rfl (LW.pp (.Mf (.t rfl) (.t rfl) oQ oQ) (LW.M rfl (LW.M rfl (LW.K (eC (.cons (.t rfl) (.cons (.t rfl) (.cons (.t rfl) (.cons (.t rfl) (.cons (.t rfl) .nil))))) (Wa)) rfl (Fw (mm - i) (mm + j - i) i _ g m cp ys _ (hS.own 0 rfl) h63 oQ oQ) ?_))))))))))))
   rintro _ w3 ⟨rfl, uw3⟩
   replace hS := hS.Dh 0 rfl uw3
   refine LW.T (CW.region (LW.M rfl (LW.M rfl (LW.pp (.Mf (.t rfl) (.t rfl) oQ oQ) (LW.A rfl (LW.nil (KW.inBlock (KW.round ?_))))))))
   exact ⟨(i, j - i, Sg ys (mm - i) (mm + j - i) i), ⟨⟨by show 0 < i; omega, by show 0 < j - i; omega, by show i ≤ mm - a; omega, by show j - i ≤ b - mm; omega⟩, by rw [Fg]; exact hyl, by rw [← hrt]; exact fX oQ oQ oQ oQ, hS⟩, ⟨rfl, rfl, rfl, rfl, rfl, trivial⟩, by (dsimp only; omega)⟩
  replace h20 := dQ h20
  have heq0 : ((i : Int) = j) := by simpa using h20
  have heq : i = j := by omega
  subst heq
  refine CW.exit (Aa (Aa (Ad (KW.then (CW.region (LW.M rfl (LW.M rfl (LW.M rfl (LW.pp (.Mf (.t rfl) (.t rfl) oQ oQ) (LW.M rfl (LW.M rfl (LW.M rfl (LW.K (eC (.cons (.t rfl) (.cons (.t rfl) (.cons (.t rfl) (.cons (.t rfl) (.cons (.t rfl) .nil))))) (Wa)) rfl (Fw (mm - i) mm i _ g m cp ys _ (hS.own 0 rfl) h63 oQ oQ) ?_)))))))))))))
  rintro _ w4 ⟨rfl, uw4⟩
  replace hS := hS.Dh 0 rfl uw4
  refine LW.nil (Dl rfl ⟨_, rfl, ?_⟩)
  rw [kN oQ oQ, hrt] at hS
  exact ⟨rfl, ⟨hS.fr, hS.get 0 rfl, fun _ h => .inl h⟩⟩
set_option maxHeartbeats 600000 in
theorem Gz (v : Bool) (a b : Nat) (cf : Nat) (lb : Array Go.Value) (key : Fact → K2) (hen : ∀ args w, (callFunc cf args).run Tryz.prog w = .ok (.enter cf args) w) (g m cp : Nat) (xs : List Fact) (w : World) (ho : OwnS w 0 (bif v then 36 else 198) 19 Fact.cells (.slice (some ⟨g, 0, none⟩) m cp) xs) (h63 : m ≤ 1000000000) (hcmp : ∀ W, Fr (Al (bif v then 36 else 198) 19 Fact.cells (.slice (some ⟨g, 0, none⟩) m cp) (xs)).foot w W → ∀ x y, Ret Tryz.prog cf (#[.agg (Fact.cells x), .agg (Fact.cells y)] ++ lb) W fun r W' => r = vi (W6 (key x) (key y)) ∧ Up W W') (h1 : a ≤ b) (h2 : b ≤ m) : Ret Tryz.prog (bif v then 173 else 197) #[.slice (some ⟨g, 0, none⟩) m cp, vi (a : Int), vi (b : Int), .func (.func cf) #[] lb] w fun r w' => r = .tuple #[] ∧ ∃ zs, StS key (Cl xs a b) zs ∧ Stp (Al (bif v then 36 else 198) 19 Fact.cells (.slice (some ⟨g, 0, none⟩) m cp) (xs)) (Al (bif v then 36 else 198) 19 Fact.cells (.slice (some ⟨g, 0, none⟩) m cp) (Er xs a b zs)) w w' := by
 have TY0 : TN (bif v then 36 else 198) := ⟨⟩
 have func173 := Q7 v
 have isAgg36 := Mj v
 have sizeOf36 := Kl v
 have underlying23 := E5 v
 cases v <;> dsimp only [cond] at *
 all_goals
  obtain ⟨w0, rfl⟩ : ∃ w0, w0 = w := ⟨_, rfl⟩
  have hxl := ho.len
  have hS : Wx.Sep (Al (tN TY0) 19 Fact.cells (.slice (some ⟨g, 0, none⟩) m cp) (xs)).foot w0 w0 [Al (tN TY0) 19 Fact.cells (.slice (some ⟨g, 0, none⟩) m cp) (xs)] := Sep.cons ho (fun _ h => h) (Sep.start _ _) (by simp)
  refine cS (n := 53) (m := 9) func173 rfl rfl rfl (CW.S (LW.M rfl (LW.pp (.inc (.t rfl) oQ) (LW.A rfl (LW.T (CW.block (Am (σ := Nat × List Fact) (fun s w => (a + 1 ≤ s.1 ∧ (s.1 ≤ b ∨ s.1 = a + 1)) ∧ (StS key (Cl xs a (min s.1 b)) s.2) ∧ (Wx.Sep (Al (tN TY0) 19 Fact.cells (.slice (some ⟨g, 0, none⟩) m cp) (xs)).foot w0 w [Al (tN TY0) 19 Fact.cells (.slice (some ⟨g, 0, none⟩) m cp) (Er xs a (min s.1 b) s.2)])) (fun s => [(8, .eq (vi (s.1 : Int)))]) ([(0, .eq _), (1, .eq _), (2, .eq _), (3, .eq _)]) (fun s => b - s.1) (a + 1, Cl xs a (min (a + 1) b)) ?_ ⟨rfl, rfl, rfl, rfl, rfl, trivial⟩ ?_)))))))
  ·exact ⟨⟨Nat.le_refl _, .inr rfl⟩, StS.refl (qE (by rw [A5 (by omega)]; omega)), by rw [Gi oQ (by omega)]; exact hS⟩
  rintro ⟨i, zs⟩ w1 ⟨hi, hz, hS⟩
  dsimp only at hi hz hS
  change CW _ _ _ _ _ _ _ ([(8, .eq (vi (i : Int)))] ++ _) _
  refine CW.seq (CW.S (LW.M rfl (LW.M rfl (LW.pp (.lss (.t rfl) (.t rfl)) (LW.T (CW.cond (.t rfl) (fun h14 => ?_) (fun h14 => ?_)))))))
  ·refine CW.skip (KW.then (CW.seq (CW.block (CW.seq ?_))))
   have hib : i < b := by simp at h14; omega
   rw [Nat.min_eq_left (by omega)] at hz hS
   have hzl : zs.length = i - a := by rw [hz.same.length, A5 (by omega)]
   obtain ⟨x, hx⟩ := Ac (xs := xs) (i := i) oQ
   refine CW.region (LW.M rfl (LW.A rfl (LW.T (CW.block (Am (σ := Nat) (fun s w => (a ≤ s ∧ s ≤ i) ∧ (∀ y ∈ zs.drop (s - a), F7 (key x) (key y) = true) ∧ (Wx.Sep (Al (tN TY0) 19 Fact.cells (.slice (some ⟨g, 0, none⟩) m cp) (xs)).foot w0 w [Al (tN TY0) 19 Fact.cells (.slice (some ⟨g, 0, none⟩) m cp) (Er xs a (i + 1) (Bo zs x (s - a)))])) (fun s => [(9, .eq (vi (s : Int)))]) ([(0, .eq _), (1, .eq _), (2, .eq _), (3, .eq _), (8, .eq _)]) (fun s => s) i ?_ ⟨rfl, rfl, rfl, rfl, rfl, rfl, trivial⟩ ?_)))))
   ·exact ⟨⟨by omega, Nat.le_refl _⟩, by rw [List.drop_eq_nil_of_le (by omega)]; simp, by rw [← hzl, Tk, Wt oQ hx hzl]; exact hS⟩
   rintro j w2 ⟨hj, hgt, hS⟩
   refine CW.seq (CW.seq ?_)
   skip
   cases hq4 : decide (a < j) with
   | true =>
    have haj := of_decide_eq_true hq4
    obtain ⟨y, hy⟩ := Ac (xs := zs) (i := j - a - 1) oQ
    have hjx : (Er xs a (i + 1) (Bo zs x (j - a)))[j]? = some x := by have := Wu (xs := xs) (a := a) (b := i + 1) (zs := zs) (x := x) (p := j - a) oQ oQ oQ (by omega); rwa [show a + (j - a) = j by omega] at this
    have hjy : (Er xs a (i + 1) (Bo zs x (j - a)))[j - 1]? = some y := by have := Mi (xs := xs) (a := a) (b := i + 1) (zs := zs) (x := x) (p := j - a) (q := j - a - 1) oQ oQ oQ oQ (by omega); rw [show a + (j - a - 1) = j - 1 by omega] at this; exact this.trans hy
    refine Ch kQ kQ rfl rfl (HW.pp (.move (.t rfl)) (HW.pp (.move (.t rfl)) (HW.pp (.tr (PEv.gtr (.t rfl) (.t rfl)) (decide_eq_true oQ)) (HW.pp (.move (.t rfl)) (Cr (.move (.t rfl)) (Cr (.move (.t rfl)) (Cr (.move (.t rfl)) (Cr (.indexAddr underlying23 sizeOf36 (.t rfl) (.t rfl) oQ) (Cr (.la isAgg36 sizeOf36 rfl ((hS.own 0 rfl).at (fun _ => rfl) hjx)) (Cr (.move (.t rfl)) (Cr (.move (.t rfl)) (Cr (.dec (.t rfl) oQ oQ) (Cr (.indexAddr underlying23 sizeOf36 (.t rfl) (.t rfl) oQ) (Cr (.la isAgg36 sizeOf36 rfl ((hS.own 0 rfl).at (fun _ => rfl) hjy)) (sG rfl rfl rfl rfl rfl (fun a w _ ha => Cq (.t rfl) (.cons (.t rfl) (.cons (.t rfl) .nil)) (hen) a ha) rfl (fun w hu => hcmp w (hS.fr.trans (hu.fr _)) x y) (Cr (.lss (.t rfl) (.const _)) (HW.pp (.Ao (.t rfl) (fun hp => (by exact .tmp rfl))) (HW.nil ?_))))))))))))))))))
    intro w3 uw3
    replace hS := hS.up uw3
    refine KW.then (CW.cond (.t rfl) (fun h34 => ?_) (fun h34 => ?_))
    ·refine CW.skip (KW.then (CW.seq (CW.block (Js 15 17 [.slice (some ⟨g, 0, none⟩) m cp, vi ((j : Nat) : Int), .slice (some ⟨g, 0, none⟩) m cp, vi ((j : Nat) : Int), vi ((j - 1 : Nat) : Int), .slice (some ⟨g, 0, none⟩) m cp, vi ((j : Nat) : Int), vi ((j - 1 : Nat) : Int), .pointer (some ⟨g, 0 + (j - 1) * 19, none⟩), .agg (Fact.cells y), .slice (some ⟨g, 0, none⟩) m cp, vi ((j : Nat) : Int), .pointer (some ⟨g, 0 + (j) * 19, none⟩), .agg (Fact.cells x), .pointer (some ⟨g, 0 + (j) * 19, none⟩), undef, .pointer (some ⟨g, 0 + (j - 1) * 19, none⟩), undef] (fun W => Wx.Sep (Al (tN TY0) 19 Fact.cells (.slice (some ⟨g, 0, none⟩) m cp) (xs)).foot w0 W [Al (tN TY0) 19 Fact.cells (.slice (some ⟨g, 0, none⟩) m cp) (Er xs a (i + 1) (Bo zs x (j - a)))]) (fun W => Wx.Sep (Al (tN TY0) 19 Fact.cells (.slice (some ⟨g, 0, none⟩) m cp) (xs)).foot w0 W [Al (tN TY0) 19 Fact.cells (.slice (some ⟨g, 0, none⟩) m cp) ((Er xs a (i + 1) (Bo zs x (j - a))).set (j) y)]) (fun W => Wx.Sep (Al (tN TY0) 19 Fact.cells (.slice (some ⟨g, 0, none⟩) m cp) (xs)).foot w0 W [Al (tN TY0) 19 Fact.cells (.slice (some ⟨g, 0, none⟩) m cp) (((Er xs a (i + 1) (Bo zs x (j - a))).set (j) y).set (j - 1) x)]) kQ rfl kQ kQ kQ kQ kQ kQ (hS.up (Up.drew _)) ?_ _ _ rfl rfl ⟨rfl, rfl⟩ ⟨rfl, rfl⟩ ?_ ?_ ?_))))
     ·refine aC (.inr ⟨rfl, .inr fun W => PEv.move (.t rfl)⟩) (aC (.inr ⟨rfl, .inr fun W => PEv.move (.t rfl)⟩) (aC (.inr ⟨rfl, .inr fun W => PEv.move (.t rfl)⟩) (aC (.inr ⟨rfl, .inr fun W => PEv.move (.t rfl)⟩) (aC (.inr ⟨rfl, .inr fun W => PEv.dec (.t rfl) oQ oQ⟩) (aC (.inr ⟨rfl, .inr fun W => PEv.move (.t rfl)⟩) (aC (.inr ⟨rfl, .inr fun W => PEv.move (.t rfl)⟩) (aC (.inr ⟨rfl, .inr fun W => PEv.dec (.t rfl) oQ oQ⟩) (aC (.inr ⟨rfl, .inr fun W => PEv.indexAddr underlying23 sizeOf36 (.t rfl) (.t rfl) oQ⟩) (aC (.inr ⟨rfl, .inl ⟨by kernel_rfl, fun W hS => PEv.la isAgg36 sizeOf36 rfl ((hS.own 0 rfl).at (fun _ => rfl) hjy)⟩⟩) (aC (.inr ⟨rfl, .inr fun W => PEv.move (.t rfl)⟩) (aC (.inr ⟨rfl, .inr fun W => PEv.move (.t rfl)⟩) (aC (.inr ⟨rfl, .inr fun W => PEv.indexAddr underlying23 sizeOf36 (.t rfl) (.t rfl) oQ⟩) (aC (.inr ⟨rfl, .inl ⟨by kernel_rfl, fun W hS => PEv.la isAgg36 sizeOf36 rfl ((hS.own 0 rfl).at (fun _ => rfl) hjx)⟩⟩) (aC (.inr ⟨rfl, .inr fun W => PEv.indexAddr underlying23 sizeOf36 (.t rfl) (.t rfl) oQ⟩) (aC (.inl (by simp)) (aC (.inr ⟨rfl, .inr fun W => PEv.indexAddr underlying23 sizeOf36 (.t rfl) (.t rfl) oQ⟩) (aC (.inl (by simp)) ?_)))))))))))))))))
      exact allL.nil
     ·intro W hS
      exact SEv.mono (SEv.Fp (i := j) (z := y) sizeOf36 (fun _ => rfl) Fact.one (.t rfl) (.t rfl) (hS.own 0 rfl) oQ) (fun _ h => hS.Dh 0 rfl h)
     ·intro W hS
      exact SEv.mono (SEv.Fp (i := j - 1) (z := x) sizeOf36 (fun _ => rfl) Fact.one (.t rfl) (.t rfl) (hS.own 0 rfl) oQ) (fun _ h => hS.Dh 0 rfl h)
     intro w4 hS
     have hS : Wx.Sep (Al (tN TY0) 19 Fact.cells (.slice (some ⟨g, 0, none⟩) m cp) (xs)).foot w0 w4 [Al (tN TY0) 19 Fact.cells (.slice (some ⟨g, 0, none⟩) m cp) (((Er xs a (i + 1) (Bo zs x (j - a))).set (j) y).set (j - 1) x)] := hS
     refine KW.inBlock (KW.then (CW.region (LW.M rfl (LW.pp (.dec (.t rfl) oQ oQ) (LW.A rfl (LW.nil (KW.round ?_)))))))
     exact ⟨j - 1, ⟨⟨by omega, by omega⟩, by rw [show j - 1 - a = j - a - 1 by omega]; exact fZ oQ hy hgt (by rw [← G5]; simpa using h34), by have := Wv (xs := xs) (a := a) (b := i + 1) (x := x) (p := j - a - 1) (y := y) oQ oQ oQ oQ hy; rw [show j - a - 1 + 1 = j - a by omega, show a + (j - a) = j by omega, show a + (j - a - 1) = j - 1 by omega] at this; rw [show j - 1 - a = j - a - 1 by omega, ← this]; exact hS⟩, ⟨rfl, rfl, rfl, rfl, rfl, rfl, trivial⟩, by omega⟩
    refine CW.exit (Aa (Aa (Ad (KW.inBlock (KW.then (CW.region (LW.M rfl (LW.pp (.inc (.t rfl) oQ) (LW.A rfl (LW.nil (KW.round ?_)))))))))))
    exact ⟨(i + 1, Bo zs x (j - a)), ⟨⟨by omega, by omega⟩, by rw [Nat.min_eq_left oQ, Kk oQ hx]; exact hz.snoc oQ hgt (.inr ⟨y, hy, by rw [← G5]; simpa using h34⟩), by rw [Nat.min_eq_left (by omega)]; exact hS⟩, ⟨rfl, rfl, rfl, rfl, rfl, trivial⟩, by omega⟩
   | false =>
    refine Ch kQ kQ rfl rfl (HW.pp (.move (.t rfl)) (HW.pp (.move (.t rfl)) (HW.pp (.fa (PEv.gtr (.t rfl) (.t rfl)) (decide_eq_false (by have := of_decide_eq_false hq4; omega))) (HW.pp (.move (.t rfl)) (HW.N (HW.N (HW.N (HW.N (HW.N (HW.N (HW.N (HW.N (HW.N (HW.N (HW.N (HW.N (HW.pp (.Ao (b := false) (.t rfl) (fun hp => absurd (show false = true from hp) cQ)) (HW.nil ?_))))))))))))))))))
    intro w5 uw5
    replace hS := hS.up uw5
    refine KW.then (CW.cond_false (.t rfl) (CW.exit (Aa (Aa (Ad (KW.inBlock (KW.then (CW.region (LW.M rfl (LW.pp (.inc (.t rfl) oQ) (LW.A rfl (LW.nil (KW.round ?_)))))))))))))
    exact ⟨(i + 1, Bo zs x (j - a)), ⟨⟨by omega, by omega⟩, by rw [Nat.min_eq_left oQ, Kk oQ hx]; exact hz.snoc oQ hgt (.inl (by have := of_decide_eq_false hq4; omega)), by rw [Nat.min_eq_left (by omega)]; exact hS⟩, ⟨rfl, rfl, rfl, rfl, rfl, trivial⟩, by omega⟩
  refine CW.exit (Aa (Aa (Ad (Dl rfl ⟨_, rfl, ?_⟩))))
  have hbi : min i b = b := by simp at h14; omega
  rw [hbi] at hz hS
  exact ⟨rfl, zs, hz, ⟨hS.fr, hS.get 0 rfl, fun _ h => .inl h⟩⟩
end Go.Proofs.YtmimclgihlhaeaaGreat
namespace Go.Wx
theorem Lh {p q r t : Nat} (h : (decide ((p : Int) < (q : Int)) && decide ((r : Int) < (t : Int))) = true) : p < q ∧ r < t := by
 obtain ⟨h1, h2⟩ := Bool.and_eq_true_iff.1 h
 have h1 := of_decide_eq_true h1
 have h2 := of_decide_eq_true h2
 omega
theorem Z3 {p q r t : Nat} (h : (decide ((p : Int) < (q : Int)) && decide ((r : Int) < (t : Int))) = false) : ¬ (p < q ∧ r < t) := fun ⟨h1, h2⟩ => by
 rw [decide_eq_true oQ, decide_eq_true (by omega)] at h
 cases h
theorem kZ {α : Type} {xs : List α} {a b : Nat} {x : α} (hx : xs[a]? = some x) (h : a < b) (hb : b ≤ xs.length) : Cl xs a b = x :: Cl xs (a + 1) b := by
 rw [Fm (m := a + 1) oQ oQ hb, Kk (Nat.le_refl a) hx, Fo (Nat.le_refl a)]; rfl
theorem P7 {z : Nat} (h : z < 18446744073709551616) : Go.Value.int .u64 (IntKind.u64.wrap (z : Int)) = vu z := by
 rw [Fv]
 unfold vu
 congr 1
 omega
theorem P8 {z : Nat} (h : z < 9223372036854775808) : Go.Value.int .i64 (IntKind.i64.wrap (z : Int)) = vi (z : Int) := by
 rw [Dt oQ (by omega)]
theorem Nj {z : Nat} : Go.Value.int .u64 ((z : Int).fdiv (2 ^ (min 1 IntKind.u64.bits))) = vu (z / 2) := by
 have e1 : min 1 IntKind.u64.bits = 1 := rfl
 rw [e1, Int.fdiv_eq_ediv_of_nonneg _ (by decide)]
 unfold vu
 congr 1
end Go.Wx
namespace Go.Proofs.YtmimclgihlhaeaaGreat
open Go.Proofs.Tryz
open Go.Wx Go.RowKit
set_option maxHeartbeats 16000000 in
theorem Hr (v : Bool) (cf : Nat) (lb : Array Go.Value) (key : Fact → K2) (hen : ∀ args w, (callFunc cf args).run Tryz.prog w = .ok (.enter cf args) w) (g m cp : Nat) (h63 : m ≤ 1000000000) : ∀ (N a mm b : Nat) (xs : List Fact) (w : World), b - a ≤ N → OwnS w 0 (bif v then 36 else 198) 19 Fact.cells (.slice (some ⟨g, 0, none⟩) m cp) xs → (∀ W, Fr (Al (bif v then 36 else 198) 19 Fact.cells (.slice (some ⟨g, 0, none⟩) m cp) (xs)).foot w W → ∀ x y, Ret Tryz.prog cf (#[.agg (Fact.cells x), .agg (Fact.cells y)] ++ lb) W fun r W' => r = vi (W6 (key x) (key y)) ∧ Up W W') → a < mm → mm < b → b ≤ m → Ii key (Cl xs a mm) → Ii key (Cl xs mm b) →
   Ret Tryz.prog (bif v then 174 else 198) #[.slice (some ⟨g, 0, none⟩) m cp, vi (a : Int), vi (mm : Int), vi (b : Int), .func (.func cf) #[] lb] w fun r w' => r = .tuple #[] ∧ ∃ zs, StS key (Cl xs a b) zs ∧ Stp (Al (bif v then 36 else 198) 19 Fact.cells (.slice (some ⟨g, 0, none⟩) m cp) (xs)) (Al (bif v then 36 else 198) 19 Fact.cells (.slice (some ⟨g, 0, none⟩) m cp) (Er xs a b zs)) w w' := by
 have TY0 : TN (bif v then 36 else 198) := ⟨⟩
 have Ql := Xa v
 have jL := kX v
 have func174 := Z0 v
 have isAgg36 := Mj v
 have sizeOf36 := Kl v
 have underlying23 := E5 v
 have Ml := @Ml v
 cases v <;> dsimp only [cond] at *
 all_goals
  intro N
  induction N with
  | zero => intro a mm b xs w hN _ _ h1 h2; omega
  | succ N ih =>
  intro a mm b xs w hN ho hcmp h1 h2 h3 hsA hsB
  obtain ⟨w0, rfl⟩ : ∃ w0, w0 = w := ⟨_, rfl⟩
  have hxl := ho.len
  have hS : Wx.Sep (Al (tN TY0) 19 Fact.cells (.slice (some ⟨g, 0, none⟩) m cp) (xs)).foot w0 w0 [Al (tN TY0) 19 Fact.cells (.slice (some ⟨g, 0, none⟩) m cp) (xs)] := Sep.cons ho (fun _ h => h) (Sep.start _ _) (by simp)
  refine cS (n := 220) (m := 9) func174 rfl rfl rfl (CW.seq (CW.seq ?_))
  cases hq0 : decide (mm - a = 1) with
  | true =>
   have hq0 := of_decide_eq_true hq0
   obtain rfl : mm = a + 1 := by omega
   obtain ⟨x, hx⟩ := Ac (xs := xs) (i := a) oQ
   refine CW.region (LW.M rfl (LW.M rfl (LW.pp (.Mf (.t rfl) (.t rfl) oQ oQ) (LW.pp (.tr (PEv.eql (.t rfl) (.const _)) (decide_eq_true oQ)) (LW.T (CW.cond_true (.t rfl) (CW.S (LW.M rfl (LW.A rfl (LW.S (CW.region (LW.M rfl (LW.A rfl (LW.S (CW.block (Am (σ := Nat × Nat) (fun s w => (a + 1 ≤ s.1 ∧ s.1 ≤ s.2 ∧ s.2 ≤ b) ∧ (∀ q y, a + 1 ≤ q → q < s.1 → xs[q]? = some y → F7 (key y) (key x) = true) ∧ (∀ q y, s.2 ≤ q → q < b → xs[q]? = some y → F7 (key y) (key x) = false) ∧ (Wx.Sep (Al (tN TY0) 19 Fact.cells (.slice (some ⟨g, 0, none⟩) m cp) (xs)).foot w0 w [Al (tN TY0) 19 Fact.cells (.slice (some ⟨g, 0, none⟩) m cp) (xs)])) (fun s => [(10, .eq (vi (s.1 : Int))), (11, .eq (vi (s.2 : Int)))]) ([(0, .eq _), (1, .eq _), (2, .eq _), (3, .eq _), (4, .eq _)]) (fun s => s.2 - s.1) (a + 1, b) ?_ ⟨rfl, rfl, rfl, rfl, rfl, rfl, rfl, trivial⟩ ?_))))))))))))))))
   ·exact ⟨⟨Nat.le_refl _, by show a + 1 ≤ b; omega, Nat.le_refl _⟩, fun q y h1 h2 => absurd (show q < a + 1 from h2) oQ, fun q y h1 h2 => absurd (show b ≤ q from h1) oQ, hS⟩
   rintro ⟨i, j⟩ w1 ⟨hij, hL, hR, hS⟩
   dsimp only at hij hL hR hS
   change CW _ _ _ _ _ _ _ ([(10, .eq (vi (i : Int))), (11, .eq (vi (j : Int)))] ++ _) _
   refine CW.seq (CW.S (LW.M rfl (LW.M rfl (LW.pp (.lss (.t rfl) (.t rfl)) (LW.T (CW.cond (.t rfl) (fun h33 => ?_) (fun h33 => ?_)))))))
   ·replace h33 := dQ h33
    refine CW.skip (KW.then (CW.block (CW.S (LW.M rfl (LW.M rfl (LW.pp (.Nd (.t rfl) (.t rfl) oQ) (LW.pp (.val (v' := vu (i + j)) (PEv.conv (k' := .u64) (by rw [underlying3]; rfl) underlying147 (.t rfl)) (P7 oQ)) (LW.pp (.val (v' := vu ((i + j) / 2)) (PEv.Tb (j := 1) (.t rfl) (.const _)) Nj) (LW.pp (.val (v' := vi (((i + j) / 2 : Nat) : Int)) (PEv.conv (k' := .i64) (by rw [underlying147]; rfl) underlying3 (.t rfl)) (P8 oQ)) (LW.A rfl (LW.S ?_)))))))))))
    have hlt : i < j := by simp at h33; omega
    obtain ⟨y, hy⟩ := Ac (xs := xs) (i := (i + j) / 2) oQ
    refine Ch kQ kQ rfl rfl (HW.pp (.move (.t rfl)) (HW.pp (.move (.t rfl)) (HW.pp (.move (.t rfl)) (HW.pp (.indexAddr underlying23 sizeOf36 (.t rfl) (.t rfl) oQ) (HW.pp (.la isAgg36 sizeOf36 rfl ((hS.own 0 rfl).at (fun _ => rfl) hy)) (HW.pp (.move (.t rfl)) (HW.pp (.move (.t rfl)) (HW.pp (.indexAddr underlying23 sizeOf36 (.t rfl) (.t rfl) oQ) (HW.pp (.la isAgg36 sizeOf36 rfl ((hS.own 0 rfl).at (fun _ => rfl) hx)) (HW.c (fun a w _ ha => Cq (.t rfl) (.cons (.t rfl) (.cons (.t rfl) .nil)) (hen) a ha) rfl rfl (fun w hu => hcmp w (hS.fr.trans (hu.fr _)) y x) (HW.pp (.lss (.t rfl) (.const _)) (HW.nil ?_))))))))))))
    intro w2 uw2
    replace hS := hS.up uw2
    refine KW.then (CW.cond (.t rfl) (fun h50 => ?_) (fun h50 => ?_))
    ·replace h50 := dQ h50
     refine CW.region (LW.M rfl (LW.pp (.inc (.t rfl) oQ) (LW.A rfl (LW.nil (KW.inBlock (KW.round ?_))))))
     exact ⟨((i + j) / 2 + 1, j), ⟨⟨by show a + 1 ≤ (i + j) / 2 + 1; omega, by show (i + j) / 2 + 1 ≤ j; omega, by show j ≤ b; omega⟩, fun q z q1 q2 hz => cU (Ip hsB q1 (show q ≤ (i + j) / 2 from Nat.le_of_lt_succ q2) oQ hz hy) (by rw [← G5]; exact decide_eq_true h50), hR, hS⟩, ⟨rfl, rfl, rfl, rfl, rfl, rfl, rfl, trivial⟩, by omega⟩
    replace h50 := dQ h50
    refine CW.region (LW.M rfl (LW.A rfl (LW.nil (KW.inBlock (KW.round ?_)))))
    exact ⟨(i, (i + j) / 2), ⟨⟨by show a + 1 ≤ i; omega, by show i ≤ (i + j) / 2; omega, by show (i + j) / 2 ≤ b; omega⟩, hL, fun q z q1 q2 hz => Jc (by rw [← G5]; exact decide_eq_false h50) (Ip hsB oQ (show (i + j) / 2 ≤ q from q1) q2 hy hz), hS⟩, ⟨rfl, rfl, rfl, rfl, rfl, rfl, rfl, trivial⟩, by omega⟩
   replace h33 := dQ h33
   refine CW.exit (Aa (Aa (Ad (KW.then (CW.seq (CW.seq ?_))))))
   have hij2 : i = j := by simp at h33; omega
   have hzl : (Cl xs (a + 1) b).length = b - (a + 1) := A5 oQ
   have hsx : x :: Cl xs (a + 1) b = Cl xs a b := (kZ hx oQ oQ).symm
   refine CW.region (LW.M rfl (LW.A rfl (LW.T (CW.block (Am (σ := Nat) (fun s w => (a ≤ s ∧ s ≤ i - 1) ∧ (Wx.Sep (Al (tN TY0) 19 Fact.cells (.slice (some ⟨g, 0, none⟩) m cp) (xs)).foot w0 w [Al (tN TY0) 19 Fact.cells (.slice (some ⟨g, 0, none⟩) m cp) (Er xs a b (Bo (Cl xs (a + 1) b) x (s - a)))])) (fun s => [(13, .eq (vi (s : Int)))]) ([(0, .eq _), (1, .eq _), (2, .eq _), (3, .eq _), (4, .eq _), (10, .eq _)]) (fun s => i - s) a ?_ ⟨rfl, rfl, rfl, rfl, rfl, rfl, rfl, trivial⟩ ?_)))))
   ·exact ⟨⟨Nat.le_refl _, by omega⟩, by rw [Nat.sub_self, Ws, hsx, Gi oQ (by omega)]; exact hS⟩
   rintro k w3 ⟨hk, hS⟩
   refine CW.seq (CW.S (LW.M rfl (LW.M rfl (LW.pp (.dec (.t rfl) oQ oQ) (LW.pp (.lss (.t rfl) (.t rfl)) (LW.T (CW.cond (.t rfl) (fun h58 => ?_) (fun h58 => ?_))))))))
   ·replace h58 := dQ h58
    refine CW.skip (KW.then (CW.seq (CW.block ?_)))
    have hki : k < i - 1 := by simp at h58; omega
    obtain ⟨y, hy⟩ := Ac (xs := Cl xs (a + 1) b) (i := k - a) oQ
    have hrl : (Er xs a b (Bo (Cl xs (a + 1) b) x (k - a))).length = m := by rw [Da oQ oQ (by rw [Dp]; omega)]; exact hxl
    have L0 : (Er xs a b (Bo (Cl xs (a + 1) b) x (k - a)))[k]? = some x := by have := Wu (xs := xs) (a := a) (b := b) (zs := Cl xs (a + 1) b) (x := x) (p := k - a) oQ oQ oQ (by omega); rwa [show a + (k - a) = k by omega] at this
    have hky : (Er xs a b (Bo (Cl xs (a + 1) b) x (k - a)))[k + 1]? = some y := by have := Q5 (xs := xs) (a := a) (b := b) (zs := Cl xs (a + 1) b) (x := x) (p := k - a) (q := k - a + 1) oQ oQ oQ oQ (by omega); rw [show a + (k - a + 1) = k + 1 by omega] at this; exact this.trans hy
    refine Js 15 17 [.slice (some ⟨g, 0, none⟩) m cp, vi ((k : Nat) : Int), .slice (some ⟨g, 0, none⟩) m cp, vi ((k : Nat) : Int), vi ((k + 1 : Nat) : Int), .slice (some ⟨g, 0, none⟩) m cp, vi ((k : Nat) : Int), vi ((k + 1 : Nat) : Int), .pointer (some ⟨g, 0 + (k + 1) * 19, none⟩), .agg (Fact.cells y), .slice (some ⟨g, 0, none⟩) m cp, vi ((k : Nat) : Int), .pointer (some ⟨g, 0 + (k) * 19, none⟩), .agg (Fact.cells x), .pointer (some ⟨g, 0 + (k) * 19, none⟩), undef, .pointer (some ⟨g, 0 + (k + 1) * 19, none⟩), undef] (fun W => Wx.Sep (Al (tN TY0) 19 Fact.cells (.slice (some ⟨g, 0, none⟩) m cp) (xs)).foot w0 W [Al (tN TY0) 19 Fact.cells (.slice (some ⟨g, 0, none⟩) m cp) (Er xs a b (Bo (Cl xs (a + 1) b) x (k - a)))]) (fun W => Wx.Sep (Al (tN TY0) 19 Fact.cells (.slice (some ⟨g, 0, none⟩) m cp) (xs)).foot w0 W [Al (tN TY0) 19 Fact.cells (.slice (some ⟨g, 0, none⟩) m cp) ((Er xs a b (Bo (Cl xs (a + 1) b) x (k - a))).set (k) y)]) (fun W => Wx.Sep (Al (tN TY0) 19 Fact.cells (.slice (some ⟨g, 0, none⟩) m cp) (xs)).foot w0 W [Al (tN TY0) 19 Fact.cells (.slice (some ⟨g, 0, none⟩) m cp) (((Er xs a b (Bo (Cl xs (a + 1) b) x (k - a))).set (k) y).set (k + 1) x)]) kQ rfl kQ kQ kQ kQ kQ kQ (hS.up (Up.drew _)) ?_ _ _ rfl rfl ⟨rfl, rfl⟩ ⟨rfl, rfl⟩ ?_ ?_ ?_
    ·refine aC (.inr ⟨rfl, .inr fun W => PEv.move (.t rfl)⟩) (aC (.inr ⟨rfl, .inr fun W => PEv.move (.t rfl)⟩) (aC (.inr ⟨rfl, .inr fun W => PEv.move (.t rfl)⟩) (aC (.inr ⟨rfl, .inr fun W => PEv.move (.t rfl)⟩) (aC (.inr ⟨rfl, .inr fun W => PEv.inc (.t rfl) oQ⟩) (aC (.inr ⟨rfl, .inr fun W => PEv.move (.t rfl)⟩) (aC (.inr ⟨rfl, .inr fun W => PEv.move (.t rfl)⟩) (aC (.inr ⟨rfl, .inr fun W => PEv.inc (.t rfl) oQ⟩) (aC (.inr ⟨rfl, .inr fun W => PEv.indexAddr underlying23 sizeOf36 (.t rfl) (.t rfl) oQ⟩) (aC (.inr ⟨rfl, .inl ⟨by kernel_rfl, fun W hS => PEv.la isAgg36 sizeOf36 rfl ((hS.own 0 rfl).at (fun _ => rfl) hky)⟩⟩) (aC (.inr ⟨rfl, .inr fun W => PEv.move (.t rfl)⟩) (aC (.inr ⟨rfl, .inr fun W => PEv.move (.t rfl)⟩) (aC (.inr ⟨rfl, .inr fun W => PEv.indexAddr underlying23 sizeOf36 (.t rfl) (.t rfl) oQ⟩) (aC (.inr ⟨rfl, .inl ⟨by kernel_rfl, fun W hS => PEv.la isAgg36 sizeOf36 rfl ((hS.own 0 rfl).at (fun _ => rfl) L0)⟩⟩) (aC (.inr ⟨rfl, .inr fun W => PEv.indexAddr underlying23 sizeOf36 (.t rfl) (.t rfl) oQ⟩) (aC (.inl (by simp)) (aC (.inr ⟨rfl, .inr fun W => PEv.indexAddr underlying23 sizeOf36 (.t rfl) (.t rfl) oQ⟩) (aC (.inl (by simp)) ?_)))))))))))))))))
     exact allL.nil
    ·intro W hS
     exact SEv.mono (SEv.Fp (i := k) (z := y) sizeOf36 (fun _ => rfl) Fact.one (.t rfl) (.t rfl) (hS.own 0 rfl) oQ) (fun _ h => hS.Dh 0 rfl h)
    ·intro W hS
     exact SEv.mono (SEv.Fp (i := k + 1) (z := x) sizeOf36 (fun _ => rfl) Fact.one (.t rfl) (.t rfl) (hS.own 0 rfl) oQ) (fun _ h => hS.Dh 0 rfl h)
    intro w4 hS
    have hS : Wx.Sep (Al (tN TY0) 19 Fact.cells (.slice (some ⟨g, 0, none⟩) m cp) (xs)).foot w0 w4 [Al (tN TY0) 19 Fact.cells (.slice (some ⟨g, 0, none⟩) m cp) (((Er xs a b (Bo (Cl xs (a + 1) b) x (k - a))).set (k) y).set (k + 1) x)] := hS
    refine KW.inBlock (KW.then (CW.region (LW.M rfl (LW.pp (.inc (.t rfl) oQ) (LW.A rfl (LW.nil (KW.round ?_)))))))
    exact ⟨k + 1, ⟨⟨by omega, by omega⟩, by have := tX (xs := xs) (a := a) (b := b) (x := x) (p := k - a) (y := y) oQ oQ oQ oQ hy; rw [show a + (k - a) = k by omega, show a + (k - a + 1) = k + 1 by omega] at this; rw [show k + 1 - a = k - a + 1 by omega, ← this]; exact hS⟩, ⟨rfl, rfl, rfl, rfl, rfl, rfl, rfl, trivial⟩, by omega⟩
   replace h58 := dQ h58
   refine CW.exit (Aa (Aa (Ad (KW.then (CW.ret (Af (Ij rfl ⟨_, rfl, ?_⟩)))))))
   have hk2 : k - a = i - (a + 1) := by simp at h58; omega
   rw [hk2] at hS
   exact ⟨rfl, _, qG oQ hx oQ oQ hsB hL (by rw [hij2]; exact hR), ⟨hS.fr, hS.get 0 rfl, fun _ h => .inl h⟩⟩
  | false =>
   have hq0 := of_decide_eq_false hq0
   refine CW.region (LW.M rfl (LW.M rfl (LW.pp (.Mf (.t rfl) (.t rfl) oQ oQ) (LW.pp (.fa (PEv.eql (.t rfl) (.const _)) (decide_eq_false oQ)) (LW.T (CW.cond_false (.t rfl) (CW.skip (KW.then (CW.seq (CW.seq ?_))))))))))
   cases hq12 : decide (b - mm = 1) with
   | true =>
    have hq12 := of_decide_eq_true hq12
    obtain rfl : b = mm + 1 := by omega
    obtain ⟨x, hx⟩ := Ac (xs := xs) (i := mm) oQ
    refine CW.region (LW.M rfl (LW.M rfl (LW.pp (.Mf (.t rfl) (.t rfl) oQ oQ) (LW.pp (.tr (PEv.eql (.t rfl) (.const _)) (decide_eq_true oQ)) (LW.T (CW.cond_true (.t rfl) (CW.S (LW.M rfl (LW.A rfl (LW.S (CW.region (LW.M rfl (LW.A rfl (LW.S (CW.block (Am (σ := Nat × Nat) (fun s w => (a ≤ s.1 ∧ s.1 ≤ s.2 ∧ s.2 ≤ mm) ∧ (∀ q y, a ≤ q → q < s.1 → xs[q]? = some y → F7 (key x) (key y) = false) ∧ (∀ q y, s.2 ≤ q → q < mm → xs[q]? = some y → F7 (key x) (key y) = true) ∧ (Wx.Sep (Al (tN TY0) 19 Fact.cells (.slice (some ⟨g, 0, none⟩) m cp) (xs)).foot w0 w [Al (tN TY0) 19 Fact.cells (.slice (some ⟨g, 0, none⟩) m cp) (xs)])) (fun s => [(14, .eq (vi (s.1 : Int))), (15, .eq (vi (s.2 : Int)))]) ([(0, .eq _), (1, .eq _), (2, .eq _), (3, .eq _), (4, .eq _)]) (fun s => s.2 - s.1) (a, mm) ?_ ⟨rfl, rfl, rfl, rfl, rfl, rfl, rfl, trivial⟩ ?_))))))))))))))))
    ·exact ⟨⟨Nat.le_refl _, by show a ≤ mm; omega, Nat.le_refl _⟩, fun q y h1 h2 => absurd (show q < a from h2) oQ, fun q y h1 h2 => absurd (show mm ≤ q from h1) oQ, hS⟩
    rintro ⟨i, j⟩ w5 ⟨hij, hL, hR, hS⟩
    dsimp only at hij hL hR hS
    change CW _ _ _ _ _ _ _ ([(14, .eq (vi (i : Int))), (15, .eq (vi (j : Int)))] ++ _) _
    refine CW.seq (CW.S (LW.M rfl (LW.M rfl (LW.pp (.lss (.t rfl) (.t rfl)) (LW.T (CW.cond (.t rfl) (fun h85 => ?_) (fun h85 => ?_)))))))
    ·refine CW.skip (KW.then (CW.block (CW.S (LW.M rfl (LW.M rfl (LW.pp (.Nd (.t rfl) (.t rfl) oQ) (LW.pp (.val (v' := vu (i + j)) (PEv.conv (k' := .u64) (by rw [underlying3]; rfl) underlying147 (.t rfl)) (P7 oQ)) (LW.pp (.val (v' := vu ((i + j) / 2)) (PEv.Tb (j := 1) (.t rfl) (.const _)) Nj) (LW.pp (.val (v' := vi (((i + j) / 2 : Nat) : Int)) (PEv.conv (k' := .i64) (by rw [underlying147]; rfl) underlying3 (.t rfl)) (P8 oQ)) (LW.A rfl (LW.S ?_)))))))))))
     have hlt : i < j := by simp at h85; omega
     obtain ⟨y, hy⟩ := Ac (xs := xs) (i := (i + j) / 2) oQ
     refine Ch kQ kQ rfl rfl (HW.pp (.move (.t rfl)) (HW.pp (.move (.t rfl)) (HW.pp (.move (.t rfl)) (HW.pp (.indexAddr underlying23 sizeOf36 (.t rfl) (.t rfl) oQ) (HW.pp (.la isAgg36 sizeOf36 rfl ((hS.own 0 rfl).at (fun _ => rfl) hx)) (HW.pp (.move (.t rfl)) (HW.pp (.move (.t rfl)) (HW.pp (.indexAddr underlying23 sizeOf36 (.t rfl) (.t rfl) oQ) (HW.pp (.la isAgg36 sizeOf36 rfl ((hS.own 0 rfl).at (fun _ => rfl) hy)) (HW.c (fun a w _ ha => Cq (.t rfl) (.cons (.t rfl) (.cons (.t rfl) .nil)) (hen) a ha) rfl rfl (fun w hu => hcmp w (hS.fr.trans (hu.fr _)) x y) (HW.pp (.lss (.t rfl) (.const _)) (HW.pp (.not (.t rfl)) (HW.nil ?_)))))))))))))
     intro w6 uw6
     replace hS := hS.up uw6
     refine KW.then (CW.cond (.t rfl) (fun h103 => ?_) (fun h103 => ?_))
     ·refine CW.region (LW.M rfl (LW.pp (.inc (.t rfl) oQ) (LW.A rfl (LW.nil (KW.inBlock (KW.round ?_))))))
      exact ⟨((i + j) / 2 + 1, j), ⟨⟨by show a ≤ (i + j) / 2 + 1; omega, by show (i + j) / 2 + 1 ≤ j; omega, by show j ≤ mm; omega⟩, fun q z q1 q2 hz => Jc (Ip hsA q1 (show q ≤ (i + j) / 2 from Nat.le_of_lt_succ q2) oQ hz hy) (by rw [← G5]; simpa using h103), hR, hS⟩, ⟨rfl, rfl, rfl, rfl, rfl, rfl, rfl, trivial⟩, by omega⟩
     refine CW.region (LW.M rfl (LW.A rfl (LW.nil (KW.inBlock (KW.round ?_)))))
     exact ⟨(i, (i + j) / 2), ⟨⟨by show a ≤ i; omega, by show i ≤ (i + j) / 2; omega, by show (i + j) / 2 ≤ mm; omega⟩, hL, fun q z q1 q2 hz => Uw (by rw [← G5]; simpa using h103) (Ip hsA oQ (show (i + j) / 2 ≤ q from q1) q2 hy hz), hS⟩, ⟨rfl, rfl, rfl, rfl, rfl, rfl, rfl, trivial⟩, by omega⟩
    refine CW.exit (Aa (Aa (Ad (KW.then (CW.seq (CW.seq ?_))))))
    have hij2 : i = j := by simp at h85; omega
    have hzl : (Cl xs a mm).length = mm - a := A5 oQ
    refine CW.region (LW.M rfl (LW.A rfl (LW.T (CW.block (Am (σ := Nat) (fun s w => (i ≤ s ∧ s ≤ mm) ∧ (Wx.Sep (Al (tN TY0) 19 Fact.cells (.slice (some ⟨g, 0, none⟩) m cp) (xs)).foot w0 w [Al (tN TY0) 19 Fact.cells (.slice (some ⟨g, 0, none⟩) m cp) (Er xs a (mm + 1) (Bo (Cl xs a mm) x (s - a)))])) (fun s => [(17, .eq (vi (s : Int)))]) ([(0, .eq _), (1, .eq _), (2, .eq _), (3, .eq _), (4, .eq _), (14, .eq _)]) (fun s => s) mm ?_ ⟨rfl, rfl, rfl, rfl, rfl, rfl, rfl, trivial⟩ ?_)))))
    ·exact ⟨⟨by omega, Nat.le_refl _⟩, by rw [← hzl, Tk, Wt oQ hx hzl, Gi oQ (by omega)]; exact hS⟩
    rintro k w7 ⟨hk, hS⟩
    refine CW.seq (CW.S (LW.M rfl (LW.M rfl (LW.pp (.gtr (.t rfl) (.t rfl)) (LW.T (CW.cond (.t rfl) (fun h110 => ?_) (fun h110 => ?_)))))))
    ·refine CW.skip (KW.then (CW.seq (CW.block ?_)))
     have hki : i < k := by simp at h110; omega
     obtain ⟨y, hy⟩ := Ac (xs := Cl xs a mm) (i := k - a - 1) oQ
     have hrl : (Er xs a (mm + 1) (Bo (Cl xs a mm) x (k - a))).length = m := by rw [Da oQ oQ (by rw [Dp]; omega)]; exact hxl
     have L0 : (Er xs a (mm + 1) (Bo (Cl xs a mm) x (k - a)))[k]? = some x := by have := Wu (xs := xs) (a := a) (b := mm + 1) (zs := Cl xs a mm) (x := x) (p := k - a) oQ oQ oQ (by omega); rwa [show a + (k - a) = k by omega] at this
     have hky : (Er xs a (mm + 1) (Bo (Cl xs a mm) x (k - a)))[k - 1]? = some y := by have := Mi (xs := xs) (a := a) (b := mm + 1) (zs := Cl xs a mm) (x := x) (p := k - a) (q := k - a - 1) oQ oQ oQ oQ (by omega); rw [show a + (k - a - 1) = k - 1 by omega] at this; exact this.trans hy
     refine Js 15 17 [.slice (some ⟨g, 0, none⟩) m cp, vi ((k : Nat) : Int), .slice (some ⟨g, 0, none⟩) m cp, vi ((k : Nat) : Int), vi ((k - 1 : Nat) : Int), .slice (some ⟨g, 0, none⟩) m cp, vi ((k : Nat) : Int), vi ((k - 1 : Nat) : Int), .pointer (some ⟨g, 0 + (k - 1) * 19, none⟩), .agg (Fact.cells y), .slice (some ⟨g, 0, none⟩) m cp, vi ((k : Nat) : Int), .pointer (some ⟨g, 0 + (k) * 19, none⟩), .agg (Fact.cells x), .pointer (some ⟨g, 0 + (k) * 19, none⟩), undef, .pointer (some ⟨g, 0 + (k - 1) * 19, none⟩), undef] (fun W => Wx.Sep (Al (tN TY0) 19 Fact.cells (.slice (some ⟨g, 0, none⟩) m cp) (xs)).foot w0 W [Al (tN TY0) 19 Fact.cells (.slice (some ⟨g, 0, none⟩) m cp) (Er xs a (mm + 1) (Bo (Cl xs a mm) x (k - a)))]) (fun W => Wx.Sep (Al (tN TY0) 19 Fact.cells (.slice (some ⟨g, 0, none⟩) m cp) (xs)).foot w0 W [Al (tN TY0) 19 Fact.cells (.slice (some ⟨g, 0, none⟩) m cp) ((Er xs a (mm + 1) (Bo (Cl xs a mm) x (k - a))).set (k) y)]) (fun W => Wx.Sep (Al (tN TY0) 19 Fact.cells (.slice (some ⟨g, 0, none⟩) m cp) (xs)).foot w0 W [Al (tN TY0) 19 Fact.cells (.slice (some ⟨g, 0, none⟩) m cp) (((Er xs a (mm + 1) (Bo (Cl xs a mm) x (k - a))).set (k) y).set (k - 1) x)]) kQ rfl kQ kQ kQ kQ kQ kQ (hS.up (Up.drew _)) ?_ _ _ rfl rfl ⟨rfl, rfl⟩ ⟨rfl, rfl⟩ ?_ ?_ ?_
     ·refine aC (.inr ⟨rfl, .inr fun W => PEv.move (.t rfl)⟩) (aC (.inr ⟨rfl, .inr fun W => PEv.move (.t rfl)⟩) (aC (.inr ⟨rfl, .inr fun W => PEv.move (.t rfl)⟩) (aC (.inr ⟨rfl, .inr fun W => PEv.move (.t rfl)⟩) (aC (.inr ⟨rfl, .inr fun W => PEv.dec (.t rfl) oQ oQ⟩) (aC (.inr ⟨rfl, .inr fun W => PEv.move (.t rfl)⟩) (aC (.inr ⟨rfl, .inr fun W => PEv.move (.t rfl)⟩) (aC (.inr ⟨rfl, .inr fun W => PEv.dec (.t rfl) oQ oQ⟩) (aC (.inr ⟨rfl, .inr fun W => PEv.indexAddr underlying23 sizeOf36 (.t rfl) (.t rfl) oQ⟩) (aC (.inr ⟨rfl, .inl ⟨by kernel_rfl, fun W hS => PEv.la isAgg36 sizeOf36 rfl ((hS.own 0 rfl).at (fun _ => rfl) hky)⟩⟩) (aC (.inr ⟨rfl, .inr fun W => PEv.move (.t rfl)⟩) (aC (.inr ⟨rfl, .inr fun W => PEv.move (.t rfl)⟩) (aC (.inr ⟨rfl, .inr fun W => PEv.indexAddr underlying23 sizeOf36 (.t rfl) (.t rfl) oQ⟩) (aC (.inr ⟨rfl, .inl ⟨by kernel_rfl, fun W hS => PEv.la isAgg36 sizeOf36 rfl ((hS.own 0 rfl).at (fun _ => rfl) L0)⟩⟩) (aC (.inr ⟨rfl, .inr fun W => PEv.indexAddr underlying23 sizeOf36 (.t rfl) (.t rfl) oQ⟩) (aC (.inl (by simp)) (aC (.inr ⟨rfl, .inr fun W => PEv.indexAddr underlying23 sizeOf36 (.t rfl) (.t rfl) oQ⟩) (aC (.inl (by simp)) ?_)))))))))))))))))
      exact allL.nil
     ·intro W hS
      exact SEv.mono (SEv.Fp (i := k) (z := y) sizeOf36 (fun _ => rfl) Fact.one (.t rfl) (.t rfl) (hS.own 0 rfl) oQ) (fun _ h => hS.Dh 0 rfl h)
     ·intro W hS
      exact SEv.mono (SEv.Fp (i := k - 1) (z := x) sizeOf36 (fun _ => rfl) Fact.one (.t rfl) (.t rfl) (hS.own 0 rfl) oQ) (fun _ h => hS.Dh 0 rfl h)
     intro w8 hS
     have hS : Wx.Sep (Al (tN TY0) 19 Fact.cells (.slice (some ⟨g, 0, none⟩) m cp) (xs)).foot w0 w8 [Al (tN TY0) 19 Fact.cells (.slice (some ⟨g, 0, none⟩) m cp) (((Er xs a (mm + 1) (Bo (Cl xs a mm) x (k - a))).set (k) y).set (k - 1) x)] := hS
     refine KW.inBlock (KW.then (CW.region (LW.M rfl (LW.pp (.dec (.t rfl) oQ oQ) (LW.A rfl (LW.nil (KW.round ?_)))))))
     exact ⟨k - 1, ⟨⟨by omega, by omega⟩, by have := Wv (xs := xs) (a := a) (b := mm + 1) (x := x) (p := k - a - 1) (y := y) oQ oQ oQ oQ hy; rw [show k - a - 1 + 1 = k - a by omega, show a + (k - a) = k by omega, show a + (k - a - 1) = k - 1 by omega] at this; rw [show k - 1 - a = k - a - 1 by omega, ← this]; exact hS⟩, ⟨rfl, rfl, rfl, rfl, rfl, rfl, rfl, trivial⟩, by omega⟩
    refine CW.exit (Aa (Aa (Ad (KW.then (CW.ret (Af (Ij rfl ⟨_, rfl, ?_⟩)))))))
    have hk2 : k = i := by simp at h110; omega
    subst hk2
    exact ⟨rfl, _, kT hx oQ oQ hsA hL (by rw [hij2]; exact hR), ⟨hS.fr, hS.get 0 rfl, fun _ h => .inl h⟩⟩
   | false =>
    have hq12 := of_decide_eq_false hq12
    obtain ⟨mid, hmid⟩ : ∃ mid, mid = (a + b) / 2 := ⟨_, rfl⟩
    refine CW.region (LW.M rfl (LW.M rfl (LW.pp (.Mf (.t rfl) (.t rfl) oQ oQ) (LW.pp (.fa (PEv.eql (.t rfl) (.const _)) (decide_eq_false oQ)) (LW.T (CW.cond_false (.t rfl) (CW.skip (KW.then (CW.S (LW.M rfl (LW.M rfl (LW.pp (.Nd (.t rfl) (.t rfl) oQ) (LW.pp (.val (v' := vu (a + b)) (PEv.conv (k' := .u64) (by rw [underlying3]; rfl) underlying147 (.t rfl)) (P7 oQ)) (LW.pp (.val (v' := vu ((a + b) / 2)) (PEv.Tb (j := 1) (.t rfl) (.const _)) Nj) (LW.pp (.val (v' := vi ((mid : Nat) : Int)) (PEv.conv (k' := .i64) (by rw [underlying147]; rfl) underlying3 (.t rfl)) (by rw [hmid]; exact P8 oQ)) (LW.A rfl (LW.S (CW.region (LW.M rfl (LW.M rfl (LW.pp (.Nd (.t rfl) (.t rfl) oQ) (LW.A rfl (LW.S (CW.region (LW.C (LW.C (LW.T (L3 (fun a1 W => ∃ s0 r0 : Nat, Ag 220 [] ([(0, .eq (.slice (some ⟨g, 0, none⟩) m cp)), (1, .eq (vi (a : Int))), (2, .eq (vi (mm : Int))), (3, .eq (vi (b : Int))), (4, .eq (.func (.func cf) #[] lb)), (18, .eq (vi (mid : Int))), (19, .eq (vi ((mid + mm : Nat) : Int))), (20, .eq (vi (s0 : Int))), (21, .eq (vi (r0 : Int)))]) a1 W ∧ ((s0 = mid + mm - b ∧ r0 = mid ∧ mid < mm) ∨ (s0 = a ∧ r0 = mm ∧ mm ≤ mid)) ∧ Wx.Sep (Al (tN TY0) 19 Fact.cells (.slice (some ⟨g, 0, none⟩) m cp) (xs)).foot w0 W [Al (tN TY0) 19 Fact.cells (.slice (some ⟨g, 0, none⟩) m cp) (xs)]) ?_ ?_))))))))))))))))))))))))))))
    ·skip
     refine CW.S (LW.M rfl (LW.M rfl (LW.pp (.gtr (.t rfl) (.t rfl)) (LW.T (CW.cond (.t rfl) (fun h140 => ?_) (fun h140 => ?_))))))
     ·replace h140 := dQ h140
      refine CW.S (LW.M rfl (LW.M rfl (LW.pp (.Mf (.t rfl) (.t rfl) oQ oQ) (LW.A rfl (LW.T (CW.region (LW.M rfl (LW.A rfl (LW.nil ?_)))))))))
      exact fun a ha => ⟨_, _, ha.sub ⟨rfl, rfl, rfl, rfl, rfl, rfl, rfl, rfl, rfl, trivial⟩, (by exact .inl ⟨rfl, rfl, by omega⟩), hS⟩
     replace h140 := dQ h140
     refine CW.S (LW.M rfl (LW.A rfl (LW.T (CW.region (LW.M rfl (LW.A rfl (LW.nil ?_)))))))
     exact fun a ha => ⟨_, _, ha.sub ⟨rfl, rfl, rfl, rfl, rfl, rfl, rfl, rfl, rfl, trivial⟩, (by exact .inr ⟨rfl, rfl, by omega⟩), hS⟩
    rintro a1 w9 ⟨s0, r0, ha, hsr, hS⟩
    revert a1
    show CW none _ _ _ _ _ _ _ _
    refine CW.S (LW.M rfl (LW.pp (.dec (.t rfl) oQ oQ) (LW.A rfl (LW.S (CW.block (Am (σ := Nat × Nat) (fun s w => (s0 ≤ s.1 ∧ s.1 ≤ s.2 ∧ s.2 ≤ r0) ∧ (s.1 = s0 ∨ ∃ u v, xs[mid + mm - s.1]? = some u ∧ xs[s.1 - 1]? = some v ∧ F7 (key u) (key v) = false) ∧ (s.2 = r0 ∨ ∃ u v, xs[mid + mm - 1 - s.2]? = some u ∧ xs[s.2]? = some v ∧ F7 (key u) (key v) = true) ∧ (Wx.Sep (Al (tN TY0) 19 Fact.cells (.slice (some ⟨g, 0, none⟩) m cp) (xs)).foot w0 w [Al (tN TY0) 19 Fact.cells (.slice (some ⟨g, 0, none⟩) m cp) (xs)])) (fun s => [(20, .eq (vi (s.1 : Int))), (21, .eq (vi (s.2 : Int)))]) ([(0, .eq _), (1, .eq _), (2, .eq _), (3, .eq _), (4, .eq _), (18, .eq _), (19, .eq _), (22, .eq _)]) (fun s => s.2 - s.1) (s0, r0) ?_ ⟨rfl, rfl, rfl, rfl, rfl, rfl, rfl, rfl, rfl, rfl, trivial⟩ ?_))))))
    ·exact ⟨⟨Nat.le_refl _, by show s0 ≤ r0; omega, Nat.le_refl _⟩, .inl rfl, .inl rfl, hS⟩
    rintro ⟨s, r⟩ w10 ⟨hq, hs, hr, hS⟩
    dsimp only at hq hs hr hS
    change CW _ _ _ _ _ _ _ ([(20, .eq (vi (s : Int))), (21, .eq (vi (r : Int)))] ++ _) _
    refine CW.seq (CW.S (LW.M rfl (LW.M rfl (LW.pp (.lss (.t rfl) (.t rfl)) (LW.T (CW.cond (.t rfl) (fun h151 => ?_) (fun h151 => ?_)))))))
    ·replace h151 := dQ h151
     refine CW.skip (KW.then (CW.block (CW.S (LW.M rfl (LW.M rfl (LW.pp (.Nd (.t rfl) (.t rfl) oQ) (LW.pp (.val (v' := vu (s + r)) (PEv.conv (k' := .u64) (by rw [underlying3]; rfl) underlying147 (.t rfl)) (P7 oQ)) (LW.pp (.val (v' := vu ((s + r) / 2)) (PEv.Tb (j := 1) (.t rfl) (.const _)) Nj) (LW.pp (.val (v' := vi (((s + r) / 2 : Nat) : Int)) (PEv.conv (k' := .i64) (by rw [underlying147]; rfl) underlying3 (.t rfl)) (P8 oQ)) (LW.A rfl (LW.S ?_)))))))))))
     have hlt : s < r := by simp at h151; omega
     obtain ⟨u, hu_⟩ := Ac (xs := xs) (i := mid + mm - 1 - (s + r) / 2) oQ
     obtain ⟨v, hv_⟩ := Ac (xs := xs) (i := (s + r) / 2) oQ
     refine Ch kQ kQ rfl rfl (HW.pp (.move (.t rfl)) (HW.pp (.move (.t rfl)) (HW.pp (.move (.t rfl)) (HW.pp (.move (.t rfl)) (HW.pp (.Mf (.t rfl) (.t rfl) oQ oQ) (HW.pp (.indexAddr underlying23 sizeOf36 (.t rfl) (.t rfl) oQ) (HW.pp (.la isAgg36 sizeOf36 rfl ((hS.own 0 rfl).at (fun _ => rfl) hu_)) (HW.pp (.move (.t rfl)) (HW.pp (.move (.t rfl)) (HW.pp (.indexAddr underlying23 sizeOf36 (.t rfl) (.t rfl) oQ) (HW.pp (.la isAgg36 sizeOf36 rfl ((hS.own 0 rfl).at (fun _ => rfl) hv_)) (HW.c (fun a w _ ha => Cq (.t rfl) (.cons (.t rfl) (.cons (.t rfl) .nil)) (hen) a ha) rfl rfl (fun w hu => hcmp w (hS.fr.trans (hu.fr _)) u v) (HW.pp (.lss (.t rfl) (.const _)) (HW.pp (.not (.t rfl)) (HW.nil ?_)))))))))))))))
     intro w11 uw11
     replace hS := hS.up uw11
     refine KW.then (CW.cond (.t rfl) (fun h171 => ?_) (fun h171 => ?_))
     ·replace h171 := dQ h171
      refine CW.region (LW.M rfl (LW.pp (.inc (.t rfl) oQ) (LW.A rfl (LW.nil (KW.inBlock (KW.round ?_))))))
      exact ⟨((s + r) / 2 + 1, r), ⟨⟨by show s0 ≤ (s + r) / 2 + 1; omega, by show (s + r) / 2 + 1 ≤ r; omega, by show r ≤ r0; omega⟩, .inr ⟨u, v, by show xs[mid + mm - ((s + r) / 2 + 1)]? = some u; rw [show mid + mm - ((s + r) / 2 + 1) = mid + mm - 1 - (s + r) / 2 by omega]; exact hu_, hv_, by rw [← G5]; simpa using h171⟩, hr, hS⟩, ⟨rfl, rfl, rfl, rfl, rfl, rfl, rfl, rfl, rfl, rfl, trivial⟩, by omega⟩
     replace h171 := dQ h171
     refine CW.region (LW.M rfl (LW.A rfl (LW.nil (KW.inBlock (KW.round ?_)))))
     exact ⟨(s, (s + r) / 2), ⟨⟨by show s0 ≤ s; omega, by show s ≤ (s + r) / 2; omega, by show (s + r) / 2 ≤ r0; omega⟩, hs, .inr ⟨u, v, hu_, hv_, by rw [← G5]; simpa using h171⟩, hS⟩, ⟨rfl, rfl, rfl, rfl, rfl, rfl, rfl, rfl, rfl, rfl, trivial⟩, by omega⟩
    replace h151 := dQ h151
    refine CW.exit (Aa (Aa (Ad (KW.then (CW.seq ?_)))))
    have hsr2 : s = r := by simp at h151; omega
    obtain ⟨e, he⟩ : ∃ e, e = mid + mm - s := ⟨_, rfl⟩
    have hsm : s ≤ mm := by omega
    have hme : mm ≤ e := by omega
    have has : a ≤ s := by omega
    have heb : e ≤ b := by omega
    have hmd : mid = s + (e - mm) := by omega
    have hrl : (I7 xs s mm e).length = m := by rw [E2 hsm hme (by omega)]; exact hxl
    refine CW.region (LW.M rfl (LW.M rfl (LW.pp (.val (v' := vi (e : Int)) (PEv.Mf (.t rfl) (.t rfl) oQ oQ) (by rw [he])) (LW.A rfl (LW.T (L3 (fun a1 W => Ag 220 [] ([(0, .eq (.slice (some ⟨g, 0, none⟩) m cp)), (1, .eq (vi (a : Int))), (3, .eq (vi (b : Int))), (4, .eq (.func (.func cf) #[] lb)), (18, .eq (vi (mid : Int))), (20, .eq (vi (s : Int))), (24, .eq (vi (e : Int)))]) a1 W ∧ Wx.Sep (Al (tN TY0) 19 Fact.cells (.slice (some ⟨g, 0, none⟩) m cp) (xs)).foot w0 W [Al (tN TY0) 19 Fact.cells (.slice (some ⟨g, 0, none⟩) m cp) (I7 xs s mm e)]) ?_ ?_))))))
    ·skip
     refine CW.S (LW.M rfl (LW.M rfl (LW.pp (.lss (.t rfl) (.t rfl)) (LW.M rfl (LW.g rfl rfl rfl rfl rfl rfl rfl (fun hc => PEv.move (.t rfl)) (LW.g rfl rfl rfl rfl rfl rfl rfl (fun hc => PEv.move (.t rfl)) (LW.g rfl rfl rfl rfl rfl rfl rfl (fun hc => PEv.lss vQ vQ) (LW.pp (.Ao (.t rfl) (fun hp => .cond rfl (by rw [hp]; rfl))) (LW.T (CW.cond (.t rfl) (fun h185 => ?_) (fun h185 => ?_)))))))))))
     ·refine CW.region (LW.M rfl (LW.M rfl (LW.M rfl (LW.M rfl (LW.M rfl (LW.K (eC (.cons (.t rfl) (.cons (.t rfl) (.cons (.t rfl) (.cons (.t rfl) (.cons (.t rfl) .nil))))) (jL)) rfl (Ml s mm e _ g m cp xs _ (hS.own 0 rfl) h63 (by have := Lh h185; omega) (by have := Lh h185; omega) oQ) ?_))))))
      rintro _ w12 ⟨rfl, uw12⟩
      replace hS := hS.Dh 0 rfl uw12
      change Wx.Sep _ _ _ [_] at hS
      refine LW.nil ?_
      exact fun a ha => ⟨ha.sub ⟨rfl, rfl, rfl, rfl, rfl, rfl, rfl, trivial⟩, (by exact hS)⟩
     refine CW.skip ?_
     exact fun a ha => ⟨ha.sub ⟨rfl, rfl, rfl, rfl, rfl, rfl, rfl, trivial⟩, (by (rw [kU (Z3 h185) hsm hme (by omega)]; exact hS))⟩
    rintro a1 w13 ⟨ha, hS⟩
    revert a1
    show CW none _ _ _ _ _ _ _ _
    refine L3 (fun a1 W => Ag 220 [] ([(0, .eq (.slice (some ⟨g, 0, none⟩) m cp)), (3, .eq (vi (b : Int))), (4, .eq (.func (.func cf) #[] lb)), (18, .eq (vi (mid : Int))), (24, .eq (vi (e : Int)))]) a1 W ∧ ∃ X, StS key (Cl (I7 xs s mm e) a mid) X ∧ Wx.Sep (Al (tN TY0) 19 Fact.cells (.slice (some ⟨g, 0, none⟩) m cp) (xs)).foot w0 W [Al (tN TY0) 19 Fact.cells (.slice (some ⟨g, 0, none⟩) m cp) (Er (I7 xs s mm e) a mid X)]) ?_ ?_
    ·skip
     refine CW.S (LW.M rfl (LW.M rfl (LW.pp (.lss (.t rfl) (.t rfl)) (LW.M rfl (LW.g rfl rfl rfl rfl rfl rfl rfl (fun hc => PEv.move (.t rfl)) (LW.g rfl rfl rfl rfl rfl rfl rfl (fun hc => PEv.move (.t rfl)) (LW.g rfl rfl rfl rfl rfl rfl rfl (fun hc => PEv.lss vQ vQ) (LW.pp (.Ao (.t rfl) (fun hp => .cond rfl (by rw [hp]; rfl))) (LW.T (CW.cond (.t rfl) (fun h199 => ?_) (fun h199 => ?_)))))))))))
     ·refine CW.region (LW.M rfl (LW.M rfl (LW.M rfl (LW.M rfl (LW.M rfl (LW.K (eC (.cons (.t rfl) (.cons (.t rfl) (.cons (.t rfl) (.cons (.t rfl) (.cons (.t rfl) .nil))))) (Ql)) rfl (ih a s mid (I7 xs s mm e) _ oQ (hS.own 0 rfl) (fun W hF x y => hcmp W (hS.fr.trans hF) x y) (by have := Lh h199; omega) (by have := Lh h199; omega) oQ (cZ hsA hsB oQ oQ oQ oQ oQ).1 (cZ hsA hsB oQ oQ oQ oQ oQ).2) ?_))))))
      rintro _ w14 ⟨rfl, X, hX, uw14⟩
      replace hS := hS.Dh 0 rfl uw14
      change Wx.Sep _ _ _ [_] at hS
      refine LW.nil ?_
      exact fun a ha => ⟨ha.sub ⟨rfl, rfl, rfl, rfl, rfl, trivial⟩, (by exact ⟨X, hX, hS⟩)⟩
     refine CW.skip ?_
     exact fun a ha => ⟨ha.sub ⟨rfl, rfl, rfl, rfl, rfl, trivial⟩, (by exact ⟨_, StS.refl (gA hsA hsB has hsm hme heb oQ hmd (Z3 h199)), by rw [Gi oQ (by omega)]; exact hS⟩)⟩
    rintro a1 w15 ⟨ha, X, hX, hS⟩
    revert a1
    show CW none _ _ _ _ _ _ _ _
    refine CW.seq ?_
    have hXl : X.length = mid - a := by rw [hX.same.length, A5 (by omega)]
    have hrl2 : (Er (I7 xs s mm e) a mid X).length = m := by rw [Da oQ oQ hXl]; exact hrl
    refine CW.region (LW.M rfl (LW.M rfl (LW.pp (.lss (.t rfl) (.t rfl)) (LW.M rfl (LW.g rfl rfl rfl rfl rfl rfl rfl (fun hc => PEv.move (.t rfl)) (LW.g rfl rfl rfl rfl rfl rfl rfl (fun hc => PEv.move (.t rfl)) (LW.g rfl rfl rfl rfl rfl rfl rfl (fun hc => PEv.lss vQ vQ) (LW.pp (.Ao (.t rfl) (fun hp => .cond rfl (by rw [hp]; rfl))) (LW.T (CW.cond (.t rfl) (fun h213 => ?_) (fun h213 => ?_)))))))))))
    ·refine CW.region (LW.M rfl (LW.M rfl (LW.M rfl (LW.M rfl (LW.M rfl (LW.K (eC (.cons (.t rfl) (.cons (.t rfl) (.cons (.t rfl) (.cons (.t rfl) (.cons (.t rfl) .nil))))) (Ql)) rfl (ih mid e b (Er (I7 xs s mm e) a mid X) _ oQ (hS.own 0 rfl) (fun W hF x y => hcmp W (hS.fr.trans hF) x y) (by have := Lh h213; omega) (by have := Lh h213; omega) oQ (dA hsA hsB oQ oQ oQ oQ oQ oQ hXl).1 (dA hsA hsB oQ oQ oQ oQ oQ oQ hXl).2) ?_))))))
     rintro _ w16 ⟨rfl, Y, hY, uw16⟩
     replace hS := hS.Dh 0 rfl uw16
     change Wx.Sep _ _ _ [_] at hS
     refine LW.nil (Dl rfl ⟨_, rfl, ?_⟩)
     obtain ⟨Y, hY, hS2⟩ : ∃ Y, StS key (Cl (Er (I7 xs s mm e) a mid X) mid b) Y ∧ Wx.Sep (Al (tN TY0) 19 Fact.cells (.slice (some ⟨g, 0, none⟩) m cp) (xs)).foot w0 w16 [Al (tN TY0) 19 Fact.cells (.slice (some ⟨g, 0, none⟩) m cp) (Er (Er (I7 xs s mm e) a mid X) mid b Y)] := by exact ⟨Y, hY, hS⟩
     have hd := W0 has hsm hme heb oQ hmd hsA hsB (kR hsA hsB hsm hme oQ (hs.elim (fun h => hsr.elim (fun q => .inr (.inl oQ)) (fun q => .inl oQ)) (fun ⟨u, v, e1, e2, e3⟩ => .inr (.inr ⟨u, v, by rw [he]; exact e1, e2, e3⟩)))) (kS hsA hsB has heb oQ oQ (hr.elim (fun h => hsr.elim (fun q => .inr (.inl oQ)) (fun q => .inl oQ)) (fun ⟨u, v, e1, e2, e3⟩ => .inr (.inr ⟨u, v, by rw [he, hsr2, show mid + mm - r - 1 = mid + mm - 1 - r by omega]; exact e1, by rw [hsr2]; exact e2, e3⟩)))) hX hY
     rw [hd.2] at hS2
     exact ⟨rfl, X ++ Y, hd.1, ⟨hS2.fr, hS2.get 0 rfl, fun _ h => .inl h⟩⟩
    refine CW.skip (Dl rfl ⟨_, rfl, ?_⟩)
    obtain ⟨Y, hY, hS2⟩ : ∃ Y, StS key (Cl (Er (I7 xs s mm e) a mid X) mid b) Y ∧ Wx.Sep (Al (tN TY0) 19 Fact.cells (.slice (some ⟨g, 0, none⟩) m cp) (xs)).foot w0 w15 [Al (tN TY0) 19 Fact.cells (.slice (some ⟨g, 0, none⟩) m cp) (Er (Er (I7 xs s mm e) a mid X) mid b Y)] := by exact ⟨_, StS.refl (gB hsA hsB has hsm hme heb oQ hmd hXl (Z3 h213)), by rw [Gi oQ (by omega)]; exact hS⟩
    have hd := W0 has hsm hme heb oQ hmd hsA hsB (kR hsA hsB hsm hme oQ (hs.elim (fun h => hsr.elim (fun q => .inr (.inl oQ)) (fun q => .inl oQ)) (fun ⟨u, v, e1, e2, e3⟩ => .inr (.inr ⟨u, v, by rw [he]; exact e1, e2, e3⟩)))) (kS hsA hsB has heb oQ oQ (hr.elim (fun h => hsr.elim (fun q => .inr (.inl oQ)) (fun q => .inl oQ)) (fun ⟨u, v, e1, e2, e3⟩ => .inr (.inr ⟨u, v, by rw [he, hsr2, show mid + mm - r - 1 = mid + mm - 1 - r by omega]; exact e1, by rw [hsr2]; exact e2, e3⟩)))) hX hY
    rw [hd.2] at hS2
    exact ⟨rfl, X ++ Y, hd.1, ⟨hS2.fr, hS2.get 0 rfl, fun _ h => .inl h⟩⟩
end Go.Proofs.YtmimclgihlhaeaaGreat
namespace Go.Wx
theorem Q8 {z : Nat} (h : 2 * z < 9223372036854775808) : Go.Value.int .i64 (IntKind.i64.wrap (2 * (z : Int))) = vi ((2 * z : Nat) : Int) := by
 rw [Dt oQ oQ, Int.natCast_mul]; rfl
theorem To {z : Nat} (h : 2 * z < 9223372036854775808) : Go.Value.int .i64 (IntKind.i64.wrap ((z : Int) * 2)) = vi ((2 * z : Nat) : Int) := by
 rw [Int.mul_comm]; exact Q8 h
theorem tY {a b : Nat} (h : a = b) : vi (a : Int) = vi (b : Int) := by rw [h]
end Go.Wx
namespace Go.Proofs.YtmimclgihlhaeaaGreat
open Go.Proofs.Tryz
open Go.Wx Go.RowKit
set_option maxHeartbeats 4000000 in
theorem Mm (v : Bool) (cf : Nat) (lb : Array Go.Value) (key : Fact → K2) (hen : ∀ args w, (callFunc cf args).run Tryz.prog w = .ok (.enter cf args) w) (g m cp : Nat) (xs : List Fact) (w : World) (ho : OwnS w 0 (bif v then 36 else 198) 19 Fact.cells (.slice (some ⟨g, 0, none⟩) m cp) xs) (h63 : m ≤ 1000000000) (hcmp : ∀ W, Fr (Al (bif v then 36 else 198) 19 Fact.cells (.slice (some ⟨g, 0, none⟩) m cp) (xs)).foot w W → ∀ x y, Ret Tryz.prog cf (#[.agg (Fact.cells x), .agg (Fact.cells y)] ++ lb) W fun r W' => r = vi (W6 (key x) (key y)) ∧ Up W W') : Ret Tryz.prog (bif v then 142 else 189) #[.slice (some ⟨g, 0, none⟩) m cp, vi (m : Int), .func (.func cf) #[] lb] w fun r w' => r = .tuple #[] ∧ ∃ zs, StS key xs zs ∧ Stp (Al (bif v then 36 else 198) 19 Fact.cells (.slice (some ⟨g, 0, none⟩) m cp) (xs)) (Al (bif v then 36 else 198) 19 Fact.cells (.slice (some ⟨g, 0, none⟩) m cp) (zs)) w w' := by
 have TY0 : TN (bif v then 36 else 198) := ⟨⟩
 have S7 := W9 v
 have Ql := Xa v
 have func142 := Q6 v
 have Gz := @Gz v
 have Hr := @Hr v
 cases v <;> dsimp only [cond] at *
 all_goals
  obtain ⟨w0, rfl⟩ : ∃ w0, w0 = w := ⟨_, rfl⟩
  have hxl := ho.len
  have hS : Wx.Sep (Al (tN TY0) 19 Fact.cells (.slice (some ⟨g, 0, none⟩) m cp) (xs)).foot w0 w0 [Al (tN TY0) 19 Fact.cells (.slice (some ⟨g, 0, none⟩) m cp) (xs)] := Sep.cons ho (fun _ h => h) (Sep.start _ _) (by simp)
  refine cS (n := 63) (m := 9) func142 rfl rfl rfl (CW.S (LW.pp (.val (v' := vi ((20 : Nat) : Int)) (PEv.assign (.const _)) rfl) (LW.S (CW.region (LW.M rfl (LW.C (LW.A rfl (LW.S (CW.block (Am (σ := Nat × List Fact) (fun s w => (s.1 ≤ m) ∧ (s.2.length = m) ∧ (Ins key s.2 20 s.1) ∧ (sameF key xs s.2) ∧ (Wx.Sep (Al (tN TY0) 19 Fact.cells (.slice (some ⟨g, 0, none⟩) m cp) (xs)).foot w0 w [Al (tN TY0) 19 Fact.cells (.slice (some ⟨g, 0, none⟩) m cp) (s.2)])) (fun s => [(7, .eq (vi (s.1 : Int))), (8, .eq (vi ((s.1 + 20 : Nat) : Int)))]) ([(0, .eq _), (1, .eq _), (2, .eq _), (6, .eq _)]) (fun s => m - s.1) (0, xs) ?_ ⟨rfl, rfl, rfl, rfl, rfl, rfl, trivial⟩ ?_))))))))))
  ·exact ⟨Nat.zero_le _, hxl, Ins.zero xs 20 cQ, sameF.refl xs, hS⟩
  rintro ⟨a, ys⟩ w1 ⟨ha, hyl, hI, hsf, hS⟩
  dsimp only at ha hyl hI hsf hS
  change CW _ _ _ _ _ _ _ ([(7, .eq (vi (a : Int))), (8, .eq (vi ((a + 20 : Nat) : Int)))] ++ _) _
  refine CW.seq (CW.S (LW.M rfl (LW.M rfl (LW.pp (.leq (.t rfl) (.t rfl)) (LW.T (CW.cond (.t rfl) (fun h13 => ?_) (fun h13 => ?_)))))))
  ·refine CW.skip (KW.then (CW.block (CW.seq ?_)))
   have hal : a + 20 ≤ m := by simp at h13; omega
   refine CW.region (LW.M rfl (LW.M rfl (LW.M rfl (LW.M rfl (LW.K (eC (.cons (.t rfl) (.cons (.t rfl) (.cons (.t rfl) (.cons (.t rfl) .nil)))) (S7)) rfl (Gz a (a + 20) cf lb key hen g m cp ys _ (hS.own 0 rfl) h63 (fun W hF x y => hcmp W (hS.fr.trans hF) x y) oQ oQ) ?_)))))
   rintro _ w2 ⟨rfl, zs, hz, uw2⟩
   replace hS := hS.Dh 0 rfl uw2
   refine LW.S (CW.region (LW.M rfl (LW.A rfl (LW.T (CW.region (LW.M rfl (LW.M rfl (LW.pp (.Nd (.t rfl) (.t rfl) oQ) (LW.A rfl (LW.nil (KW.inBlock (KW.round ?_))))))))))))
   exact ⟨(a + 20, Er ys a (a + 20) zs), ⟨by show a + 20 ≤ m; omega, by show (Er ys a (a + 20) zs).length = m; rw [Da oQ oQ (by rw [hz.same.length, A5 (by omega)])]; exact hyl, hI.step cQ oQ hz, hsf.step oQ oQ hz, hS⟩, ⟨rfl, rfl, rfl, rfl, rfl, rfl, trivial⟩, by show m - (a + 20) < m - a; omega⟩
  refine CW.exit (Aa (Aa (Ad (KW.then (CW.seq ?_)))))
  have hal : m < a + 20 := by simp at h13; omega
  refine CW.region (LW.M rfl (LW.M rfl (LW.M rfl (LW.M rfl (LW.K (eC (.cons (.t rfl) (.cons (.t rfl) (.cons (.t rfl) (.cons (.t rfl) .nil)))) (S7)) rfl (Gz a m cf lb key hen g m cp ys _ (hS.own 0 rfl) h63 (fun W hF x y => hcmp W (hS.fr.trans hF) x y) oQ oQ) ?_)))))
  rintro _ w3 ⟨rfl, zs, hz, uw3⟩
  replace hS := hS.Dh 0 rfl uw3
  refine LW.T (CW.block (Am (σ := Nat × List Fact) (fun s w => (0 < s.1) ∧ (s.2.length = m) ∧ (Bks key s.2 s.1) ∧ (sameF key xs s.2) ∧ (Wx.Sep (Al (tN TY0) 19 Fact.cells (.slice (some ⟨g, 0, none⟩) m cp) (xs)).foot w0 w [Al (tN TY0) 19 Fact.cells (.slice (some ⟨g, 0, none⟩) m cp) (s.2)])) (fun s => [(6, .eq (vi (s.1 : Int)))]) ([(0, .eq _), (1, .eq _), (2, .eq _)]) (fun s => m - s.1) (20, Er ys a m zs) ?_ ⟨rfl, rfl, rfl, rfl, trivial⟩ ?_))
  ·exact ⟨by show 0 < 20; omega, by show (Er ys a m zs).length = m; rw [Da oQ oQ (by rw [hz.same.length, A5 (by omega)])]; exact hyl, by have := hI.last (zs := zs) oQ oQ (by rw [hyl]; exact hz); rw [hyl] at this; exact this, hsf.step oQ oQ hz, hS⟩
  rintro ⟨B, ys⟩ w4 ⟨hB, hyl, hI, hsf, hS⟩
  dsimp only at hB hyl hI hsf hS
  change CW _ _ _ _ _ _ _ ([(6, .eq (vi (B : Int)))] ++ _) _
  refine CW.seq (CW.S (LW.M rfl (LW.M rfl (LW.pp (.lss (.t rfl) (.t rfl)) (LW.T (CW.cond (.t rfl) (fun h30 => ?_) (fun h30 => ?_)))))))
  ·refine CW.skip (KW.then (CW.block (CW.seq ?_)))
   have hBm : B < m := by simp at h30; omega
   refine CW.region (LW.M rfl (LW.pp (.val (v' := vi ((2 * B : Nat) : Int)) (K6 (.const _) (.t rfl)) (Q8 oQ)) (LW.C (LW.A rfl (LW.S (CW.block (Am (σ := Nat × List Fact) (fun s w => (s.1 ≤ m) ∧ (s.2.length = m) ∧ (Mrg key s.2 B s.1) ∧ (sameF key xs s.2) ∧ (Wx.Sep (Al (tN TY0) 19 Fact.cells (.slice (some ⟨g, 0, none⟩) m cp) (xs)).foot w0 w [Al (tN TY0) 19 Fact.cells (.slice (some ⟨g, 0, none⟩) m cp) (s.2)])) (fun s => [(7, .eq (vi (s.1 : Int))), (8, .eq (vi ((2 * B + s.1 : Nat) : Int)))]) ([(0, .eq _), (1, .eq _), (2, .eq _), (6, .eq _)]) (fun s => m - s.1) (0, ys) ?_ ⟨rfl, rfl, rfl, rfl, rfl, rfl, trivial⟩ ?_)))))))
   ·exact ⟨Nat.zero_le _, hyl, Mrg.start hB hI, hsf, hS⟩
   rintro ⟨a, ys⟩ w5 ⟨ha, hyl, hM, hsf, hS⟩
   dsimp only at ha hyl hM hsf hS
   change CW _ _ _ _ _ _ _ ([(7, .eq (vi (a : Int))), (8, .eq (vi ((2 * B + a : Nat) : Int)))] ++ _) _
   refine CW.seq (CW.S (LW.M rfl (LW.M rfl (LW.pp (.leq (.t rfl) (.t rfl)) (LW.T (CW.cond (.t rfl) (fun h35 => ?_) (fun h35 => ?_)))))))
   ·refine CW.skip (KW.then (CW.block (CW.seq ?_)))
    have hal : 2 * B + a ≤ m := by simp at h35; omega
    refine CW.region (LW.M rfl (LW.M rfl (LW.M rfl (LW.M rfl (LW.pp (.Nd (.t rfl) (.t rfl) oQ) (LW.M rfl (LW.M rfl (LW.K (eC (.cons (.t rfl) (.cons (.t rfl) (.cons (.t rfl) (.cons (.t rfl) (.cons (.t rfl) .nil))))) (Ql)) rfl (Hr cf lb key hen g m cp h63 m a (a + B) (2 * B + a) ys _ oQ (hS.own 0 rfl) (fun W hF x y => hcmp W (hS.fr.trans hF) x y) oQ oQ oQ (hM.pre oQ).1 (hM.pre oQ).2) ?_))))))))
    rintro _ w6 ⟨rfl, zs, hz, uw6⟩
    replace hS := hS.Dh 0 rfl uw6
    refine LW.S (CW.region (LW.M rfl (LW.A rfl (LW.T (CW.region (LW.M rfl (LW.M rfl (LW.pp (.val (v' := vi ((2 * B : Nat) : Int)) (K6 (.const _) (.t rfl)) (Q8 oQ)) (LW.pp (.val (v' := vi ((2 * B + (2 * B + a) : Nat) : Int)) (PEv.Nd (.t rfl) (.t rfl) oQ) (tY oQ)) (LW.A rfl (LW.nil (KW.inBlock (KW.round ?_)))))))))))))
    exact ⟨(2 * B + a, Er ys a (2 * B + a) zs), ⟨by show 2 * B + a ≤ m; omega, by show (Er ys a (2 * B + a) zs).length = m; rw [Da oQ oQ (by rw [hz.same.length, A5 (by omega)])]; exact hyl, hM.step hB oQ hz, hsf.step oQ oQ hz, hS⟩, ⟨rfl, rfl, rfl, rfl, rfl, rfl, trivial⟩, by show m - (2 * B + a) < m - a; omega⟩
   refine CW.exit (Aa (Aa (Ad (KW.then (CW.seq (CW.seq ?_))))))
   have hal : m < 2 * B + a := by simp at h35; omega
   refine CW.region (LW.M rfl (LW.M rfl (LW.pp (.Nd (.t rfl) (.t rfl) oQ) (LW.A rfl (LW.S (CW.region (LW.M rfl (LW.M rfl (LW.pp (.lss (.t rfl) (.t rfl)) (LW.T (CW.cond (.t rfl) (fun h54 => ?_) (fun h54 => ?_))))))))))))
   ·have ham : a + B < m := by simp at h54; omega
    refine CW.region (LW.M rfl (LW.M rfl (LW.M rfl (LW.M rfl (LW.M rfl (LW.K (eC (.cons (.t rfl) (.cons (.t rfl) (.cons (.t rfl) (.cons (.t rfl) (.cons (.t rfl) .nil))))) (Ql)) rfl (Hr cf lb key hen g m cp h63 m a (a + B) m ys _ oQ (hS.own 0 rfl) (fun W hF x y => hcmp W (hS.fr.trans hF) x y) oQ oQ (Nat.le_refl _) (hM.zD oQ oQ).1 (by have := (hM.zD oQ oQ).2; rw [hyl] at this; exact this)) ?_))))))
    rintro _ w7 ⟨rfl, zs, hz, uw7⟩
    replace hS := hS.Dh 0 rfl uw7
    refine LW.T (CW.region (LW.M rfl (LW.pp (.val (v' := vi ((2 * B : Nat) : Int)) (K6 (.t rfl) (.const _)) (To oQ)) (LW.A rfl (LW.nil (KW.inBlock (KW.round ?_)))))))
    exact ⟨(2 * B, Er ys a m zs), ⟨by show 0 < 2 * B; omega, by show (Er ys a m zs).length = m; rw [Da oQ oQ (by rw [hz.same.length, A5 (by omega)])]; exact hyl, by have := hM.last (zs := zs) oQ oQ (by rw [hyl]; exact hz); rw [hyl] at this; exact this, hsf.step oQ oQ hz, hS⟩, ⟨rfl, rfl, rfl, rfl, trivial⟩, by show m - 2 * B < m - B; omega⟩
   have ham : ¬ a + B < m := by simp at h54; omega
   refine CW.skip (KW.then (CW.region (LW.M rfl (LW.pp (.val (v' := vi ((2 * B : Nat) : Int)) (K6 (.t rfl) (.const _)) (To oQ)) (LW.A rfl (LW.nil (KW.inBlock (KW.round ?_))))))))
   exact ⟨(2 * B, ys), ⟨by show 0 < 2 * B; omega, hyl, hM.done oQ oQ oQ, hsf, hS⟩, ⟨rfl, rfl, rfl, rfl, trivial⟩, by show m - 2 * B < m - B; omega⟩
  refine CW.exit (Aa (Aa (Ad (Dl rfl ⟨_, rfl, ?_⟩))))
  exact ⟨rfl, ys, hI.all (by simp at h30; omega) hsf, ⟨hS.fr, hS.get 0 rfl, fun _ h => .inl h⟩⟩
set_option maxHeartbeats 600000 in
theorem Km (v : Bool) (cf : Nat) (lb : Array Go.Value) (key : Fact → K2) (hen : ∀ args w, (callFunc cf args).run Tryz.prog w = .ok (.enter cf args) w) (g m cp : Nat) (xs : List Fact) (w : World) (ho : OwnS w 0 (bif v then 36 else 198) 19 Fact.cells (.slice (some ⟨g, 0, none⟩) m cp) xs) (h63 : m ≤ 1000000000) (hcmp : ∀ W, Fr (Al (bif v then 36 else 198) 19 Fact.cells (.slice (some ⟨g, 0, none⟩) m cp) (xs)).foot w W → ∀ x y, Ret Tryz.prog cf (#[.agg (Fact.cells x), .agg (Fact.cells y)] ++ lb) W fun r W' => r = vi (W6 (key x) (key y)) ∧ Up W W') : Ret Tryz.prog (bif v then 85 else 163) #[.slice (some ⟨g, 0, none⟩) m cp, .func (.func cf) #[] lb] w fun r w' => r = .tuple #[] ∧ ∃ zs, StS key xs zs ∧ Stp (Al (bif v then 36 else 198) 19 Fact.cells (.slice (some ⟨g, 0, none⟩) m cp) (xs)) (Al (bif v then 36 else 198) 19 Fact.cells (.slice (some ⟨g, 0, none⟩) m cp) (zs)) w w' := by
 have TY0 : TN (bif v then 36 else 198) := ⟨⟩
 have V9 := W8 v
 have func85 := Tn v
 have underlying23 := E5 v
 have Mm := @Mm v
 cases v <;> dsimp only [cond] at *
 all_goals
  obtain ⟨w0, rfl⟩ : ∃ w0, w0 = w := ⟨_, rfl⟩
  have hS : Wx.Sep (Al (tN TY0) 19 Fact.cells (.slice (some ⟨g, 0, none⟩) m cp) (xs)).foot w0 w0 [Al (tN TY0) 19 Fact.cells (.slice (some ⟨g, 0, none⟩) m cp) (xs)] := Sep.cons ho (fun _ h => h) (Sep.start _ _) (by simp)
  refine cS (n := 9) (m := 9) func85 rfl rfl rfl (CW.region (LW.M rfl (LW.M rfl (LW.pp (.Ci underlying23 (.t rfl)) (LW.M rfl (LW.K (eC (.cons (.t rfl) (.cons (.t rfl) (.cons (.t rfl) .nil))) (V9)) rfl (Mm cf lb key hen g m cp xs _ (hS.own 0 rfl) h63 (fun W hF x y => hcmp W (hS.fr.trans hF) x y)) ?_))))))
  rintro _ w1 ⟨rfl, zs, hz, uw1⟩
  replace hS := hS.Dh 0 rfl uw1
  refine LW.nil (Dl rfl ⟨_, rfl, ?_⟩)
  exact ⟨rfl, zs, hz, ⟨hS.fr, hS.get 0 rfl, fun _ h => .inl h⟩⟩
end Go.Proofs.YtmimclgihlhaeaaGreat
namespace Go.Proofs.YtmimclgihlhaeaaGreat
open Go.Proofs.Tryz
open Go.Wx Go.RowKit
set_option maxHeartbeats 600000 in
theorem Iw (v : Bool) (fv : Go.Value) (w : World) : Ret Tryz.prog (bif v then 173 else 197) #[.slice none 0 0, vi 0, vi 0, fv] w fun r w' => r = .tuple #[] ∧ Up w w' := by
 have func173 := Q7 v
 cases v <;> dsimp only [cond] at *
 all_goals
  have hW := Up.refl w
  obtain ⟨w0, rfl⟩ : ∃ w0, w0 = w := ⟨_, rfl⟩
  refine cS (n := 53) (m := 9) func173 rfl rfl rfl (CW.S (LW.M rfl (LW.pp (.val (v' := vi 1) (PEv.add (.t rfl) (.const _) oQ oQ) rfl) (LW.A rfl (LW.T (CW.block (Am (σ := Unit) (fun s w => (True) ∧ (Up w0 w)) (fun s => [(8, .eq (vi 1))]) ([(0, .eq _), (1, .eq _), (2, .eq _), (3, .eq _)]) (fun s => 0) () ?_ ⟨rfl, rfl, rfl, rfl, rfl, trivial⟩ ?_)))))))
  ·exact ⟨trivial, hW⟩
  rintro _ w1 ⟨ht, hW⟩
  refine CW.seq (CW.S (LW.M rfl (LW.M rfl (LW.pp (.fa (PEv.lss (.t rfl) (.t rfl)) cQ) (LW.T (CW.cond_false (.t rfl) (CW.exit (Aa (Aa (Ad (Dl rfl ⟨_, rfl, ?_⟩)))))))))))
  exact ⟨rfl, hW⟩
set_option maxHeartbeats 600000 in
theorem Mn (v : Bool) (fv : Go.Value) (w : World) : Ret Tryz.prog (bif v then 142 else 189) #[.slice none 0 0, vi 0, fv] w fun r w' => r = .tuple #[] ∧ Up w w' := by
 have S7 := W9 v
 have func142 := Q6 v
 have Iw := @Iw v
 cases v <;> dsimp only [cond] at *
 all_goals
  have hW := Up.refl w
  obtain ⟨w0, rfl⟩ : ∃ w0, w0 = w := ⟨_, rfl⟩
  refine cS (n := 63) (m := 9) func142 rfl rfl rfl (CW.S (LW.C (LW.S (CW.region (LW.M rfl (LW.C (LW.A rfl (LW.S (CW.block (Am (σ := Unit) (fun s w => (True) ∧ (Up w0 w)) (fun s => [(7, .eq (vi 0)), (8, .eq (vi 20))]) ([(0, .eq _), (1, .eq _), (2, .eq _), (6, .eq _)]) (fun s => 0) () ?_ ⟨rfl, rfl, rfl, rfl, rfl, rfl, trivial⟩ ?_))))))))))
  ·exact ⟨trivial, hW⟩
  rintro _ w1 ⟨ht, hW⟩
  refine CW.seq (CW.S (LW.M rfl (LW.M rfl (LW.pp (.fa (PEv.leq (.t rfl) (.t rfl)) cQ) (LW.T (CW.cond_false (.t rfl) (CW.exit (Aa (Aa (Ad (KW.then (CW.S (LW.M rfl (LW.M rfl (LW.M rfl (LW.M rfl (LW.K (eC (.cons (.t rfl) (.cons (.t rfl) (.cons (.t rfl) (.cons (.t rfl) .nil)))) (S7)) rfl (Iw _ _) ?_)))))))))))))))))
  rintro _ w2 ⟨rfl, uw2⟩
  replace hW := hW.up uw2
  refine LW.T (CW.block (Am (σ := Unit) (fun s w => (True) ∧ (Up w0 w)) (fun s => [(6, .eq (vi 20))]) ([(0, .eq _), (1, .eq _), (2, .eq _)]) (fun s => 0) () ?_ ⟨rfl, rfl, rfl, rfl, trivial⟩ ?_))
  ·exact ⟨trivial, hW⟩
  rintro _ w3 ⟨ht, hW⟩
  refine CW.seq (CW.S (LW.M rfl (LW.M rfl (LW.pp (.fa (PEv.lss (.t rfl) (.t rfl)) cQ) (LW.T (CW.cond_false (.t rfl) (CW.exit (Aa (Aa (Ad (Dl rfl ⟨_, rfl, ?_⟩)))))))))))
  exact ⟨rfl, hW⟩
set_option maxHeartbeats 600000 in
theorem Kn (v : Bool) (fv : Go.Value) (w : World) : Ret Tryz.prog (bif v then 85 else 163) #[.slice none 0 0, fv] w fun r w' => r = .tuple #[] ∧ Up w w' := by
 have V9 := W8 v
 have func85 := Tn v
 have underlying23 := E5 v
 have Mn := @Mn v
 cases v <;> dsimp only [cond] at *
 all_goals
  have hW := Up.refl w
  obtain ⟨w0, rfl⟩ : ∃ w0, w0 = w := ⟨_, rfl⟩
  refine cS (n := 9) (m := 9) func85 rfl rfl rfl (CW.region (LW.M rfl (LW.M rfl (LW.pp (.Ci underlying23 (.t rfl)) (LW.M rfl (LW.K (eC (.cons (.t rfl) (.cons (.t rfl) (.cons (.t rfl) .nil))) (V9)) rfl (Mn _ _) ?_))))))
  rintro _ w1 ⟨rfl, uw1⟩
  replace hW := hW.up uw1
  refine LW.nil (Dl rfl ⟨_, rfl, ?_⟩)
  exact ⟨rfl, hW⟩
theorem Z4 (of : Nat) (w : World) : Ret Tryz.prog 34 #[.slice none 0 0, .func (.func of) #[] #[]] w fun r w' => r = .tuple #[] ∧ Up w w' := by
 have hW := Up.refl w
 obtain ⟨w0, rfl⟩ : ∃ w0, w0 = w := ⟨_, rfl⟩
 refine cS (n := 7) (m := 9) func34 rfl rfl rfl (CW.S (Ah (.L5 (.t rfl) rfl) rfl ?_))
 rintro _ w1 ⟨B3, rfl, NB3⟩
 replace hW := hW.up NB3.up
 have hB3 := NB3.blk
 refine LW.T (CW.region (LW.M rfl (LW.pp (.makeFunc (.cons (.t rfl) .nil)) (LW.K (eC (.u rfl rfl) (wK)) rfl (Kn true _ _) ?_))))
 rintro _ w2 ⟨rfl, uw2⟩
 replace hW := hW.up uw2
 replace hB3 := hB3.up uw2
 refine LW.nil (Dl rfl ⟨_, rfl, ?_⟩)
 exact ⟨rfl, hW⟩
theorem Xb (of : Nat) (key : Fact → K2) (hen : ∀ args w, (callFunc of args).run Tryz.prog w = .ok (.enter of args) w) (hord : ∀ W x, Ret Tryz.prog of #[.agg x.cells] W fun r W' => r = .agg #[vi (key x).1, vi (key x).2] ∧ Up W W') (g m cp : Nat) (xs : List Fact) (w : World) (ho : OwnS w 0 36 19 Fact.cells (.slice (some ⟨g, 0, none⟩) m cp) xs) (h63 : m ≤ 1000000000) : Ret Tryz.prog 34 #[.slice (some ⟨g, 0, none⟩) m cp, .func (.func of) #[] #[]] w fun r w' => r = .tuple #[] ∧ Stp (Al 36 19 Fact.cells (.slice (some ⟨g, 0, none⟩) m cp) (xs)) (Al 36 19 Fact.cells (.slice (some ⟨g, 0, none⟩) m cp) (D8 key xs)) w w' := by
 obtain ⟨w0, rfl⟩ : ∃ w0, w0 = w := ⟨_, rfl⟩
 have hS : Wx.Sep (Al 36 19 Fact.cells (.slice (some ⟨g, 0, none⟩) m cp) (xs)).foot w0 w0 [Al 36 19 Fact.cells (.slice (some ⟨g, 0, none⟩) m cp) (xs)] := Sep.cons ho (fun _ h => h) (Sep.start _ _) (by simp)
 refine cS (n := 7) (m := 9) func34 rfl rfl rfl (CW.S (Ah (.L5 (.t rfl) rfl) rfl ?_))
 rintro _ w1 ⟨B3, rfl, NB3⟩
 have eB3 := NB3.at_
 have zB3 := NB3.size
 replace hS := hS.Cj NB3
 refine LW.T ?_
 have hB3 := NB3.blk
 have hg := ho.lt g rfl
 replace hS : Wx.Sep (Al 36 19 Fact.cells (.slice (some ⟨g, 0, none⟩) m cp) (xs)).foot w0 w1 [Al 36 19 Fact.cells (.slice (some ⟨g, 0, none⟩) m cp) (xs)] := hS.take 1
 refine CW.region (LW.M rfl (LW.pp (.makeFunc (.cons (.t rfl) .nil)) (LW.K (eC (.u rfl rfl) (wK)) rfl (Km true 86 #[.pointer (some ⟨B3, 0, none⟩)] key CI g m cp xs _ (hS.own 0 rfl) h63 (fun W hF x y => gD of key hen hord x y B3 W (hB3.fr hF (fun (e : some g = some B3) => by cases e; omega)))) ?_)))
 rintro _ w2 ⟨rfl, zs, hz, uw2⟩
 replace hS := hS.Dh 0 rfl uw2
 refine LW.nil (Dl rfl ⟨_, rfl, ?_⟩)
 rw [hz.eq] at hS
 exact ⟨rfl, ⟨hS.fr, hS.get 0 rfl, fun _ h => .inl h⟩⟩
theorem Jv (of : Nat) (key : Fact → K2) (hen : ∀ args w, (callFunc of args).run Tryz.prog w = .ok (.enter of args) w) (hord : ∀ W x, Ret Tryz.prog of #[.agg x.cells] W fun r W' => r = .agg #[vi (key x).1, vi (key x).2] ∧ Up W W') (v : Go.Value) (xs : List Fact) (w : World) (ho : OwnS w 0 36 19 Fact.cells v xs) (h63 : xs.length ≤ 1000000000) : Ret Tryz.prog 34 #[v, .func (.func of) #[] #[]] w fun r w' => r = .tuple #[] ∧ Stp (Al 36 19 Fact.cells v xs) (Al 36 19 Fact.cells v (D8 key xs)) w w' := by
 have h0 := ho
 obtain ⟨_, ⟨rfl, hn⟩ | ⟨g, cap, cur, rfl, _⟩⟩ := h0
 · have hx : xs = [] := List.eq_nil_of_length_eq_zero hn
   subst hx
   exact (Z4 of w).mono fun r w' ⟨e, u⟩ => ⟨e, (Stp.refl ho).up u⟩
 exact Xb of key hen hord g xs.length cap xs w ho h63
end Go.Proofs.YtmimclgihlhaeaaGreat
end
section
namespace Go.Proofs.YtmimclgihlhaeaaGreat
open Go.Proofs.Tryz
open Go.Wx Go.RowKit
namespace Gs
end Gs
end Go.Proofs.YtmimclgihlhaeaaGreat
end
section
namespace Go.Wx
open Go.RowKit
section
variable {P : Program} {n : Nat} {ds : List Deferred} {l : Env} {w : World} {d : Option Tmp} {ty : TypeId} {ps : String} {af : Array Edge} {g : Option (Nat × Bool)}
theorem PEv.H8 {T e k size : Nat} {z cs : Array Value} {xs : Array (Nat × Operand)} {vs : List (Nat × Value)} (hu : P.underlying T = some (.array k e)) (hz : ∀ w, (zeroValue T).run P w = .ok (.agg z) w) (hs : ∀ w, (sizeOf e).run P w = .ok size w)
   (hv : Parts l xs.toList vs) (hf : Instr.fill (fun i => some (i * size, size)) z vs = some cs) : PEv P n ds l w ⟨d, .build T xs, ty, ps, af, g⟩ (.agg cs) := fun a w' ha _ => by
 refine A9 ?_
 have e : (xs.map fun (i, x) => (i, a.eval x)) = vs.toArray := by apply Array.ext'; rw [← hv.map ha]; simp
 rw [e]
 simp only [Instr.build, Sem.run_bind, hz, Result.andThen, run_underlying hu, hs, Value.cells, hf]
 rfl
end
def Pv (f : Int → Value) (i : Nat) : List (Int × Value) := (List.range i).map fun j => (((j + 1 : Nat) : Int), f ((j + 1 : Nat) : Int))
theorem Kp {f : Int → Value} {i : Nat} {k : Int} {v : Value} : (k, v) ∈ Pv f i ↔ 1 ≤ k ∧ k ≤ i ∧ v = f k := by
 unfold Pv
 rw [List.mem_map]
 constructor
 · rintro ⟨j, hj, e⟩
   have := List.mem_range.1 hj
   cases e
   exact ⟨by omega, by omega, rfl⟩
 rintro ⟨h1, h2, rfl⟩
 refine ⟨(k - 1).toNat, List.mem_range.2 oQ, ?_⟩
 have : (((k - 1).toNat + 1 : Nat) : Int) = k := by omega
 rw [this]
theorem gE {f : Int → Value} {i : Nat} {k : Int} : k ∈ (Pv f i).map (·.1) ↔ 1 ≤ k ∧ k ≤ i := by
 rw [List.mem_map]
 constructor
 · rintro ⟨⟨k', v⟩, h, rfl⟩
   have := Kp.1 h
   exact ⟨this.1, this.2.1⟩
 rintro ⟨h1, h2⟩
 exact ⟨(k, f k), Kp.2 ⟨h1, h2, rfl⟩, rfl⟩
theorem Ey (f : Int → Value) (i : Nat) : D5 (Pv f i) ((i + 1 : Nat) : Int) (f ((i + 1 : Nat) : Int)) = Pv f (i + 1) := by
 rw [Qt (fun h => by have := gE.1 h; omega)]
 simp [Pv, List.range_succ]
end Go.Wx
end
section
namespace Go.Wx.Ms
open Go.RowKit Go.MapKept Go.Wx
open Go.ChangeMaps (setBlock)
def vs (s : List UInt8) : Value := .string ⟨s.toArray⟩
def Ha (p : List UInt8 × Value) : Value × Value := (vs p.1, p.2)
def IMap (w : World) (b : Nat) (kv : List (List UInt8 × Value)) : Prop :=
 ∃ es clock, w.heap[b]? = some (.map es clock) ∧ Stamped es clock ∧ es.toList.map Dx = kv.map Ha
theorem IMap.lt {w : World} {b : Nat} {kv : List (List UInt8 × Value)} (h : IMap w b kv) : b < w.heap.size := let ⟨_, _, h1, _⟩ := h; lt_of_block h1
theorem IMap.up {w w' : World} {b : Nat} {kv : List (List UInt8 × Value)} (h : IMap w b kv) (u : Up w w') : IMap w' b kv := by
 have := h.lt
 obtain ⟨es, clock, h1, h2⟩ := h
 exact ⟨es, clock, (u.block this).trans h1, h2⟩
theorem E4 {es : Array MapEntry} {kv : List (List UInt8 × Value)} (h : es.toList.map Dx = kv.map Ha) : ∀ x ∈ es.toList, ∃ k, x.key = vs k ∧ (k, x.val) ∈ kv := by
 intro x hx
 have h1 : Dx x ∈ kv.map Ha := by rw [← h]; exact List.mem_map.2 ⟨x, hx, rfl⟩
 obtain ⟨p, hp, he⟩ := List.mem_map.1 h1
 have e1 : vs p.1 = x.key := congrArg Prod.fst he
 have e2 : p.2 = x.val := congrArg Prod.snd he
 exact ⟨p.1, e1.symm, by rw [← e2]; exact hp⟩
theorem C5 {es : Array MapEntry} {kv : List (List UInt8 × Value)} (h : es.toList.map Dx = kv.map Ha) {p : List UInt8 × Value} (hp : p ∈ kv) : ∃ x ∈ es.toList, x.key = vs p.1 ∧ x.val = p.2 := by
 have h1 : Ha p ∈ es.toList.map Dx := by rw [h]; exact List.mem_map.2 ⟨p, hp, rfl⟩
 obtain ⟨x, hx, he⟩ := List.mem_map.1 h1
 exact ⟨x, hx, congrArg Prod.fst he, congrArg Prod.snd he⟩
theorem Z5 {a b : List UInt8} (h : vs a = vs b) : a = b := by
 have h1 : (⟨a.toArray⟩ : ByteArray) = ⟨b.toArray⟩ := by injection h
 have h2 : a.toArray = b.toArray := congrArg ByteArray.data h1
 simpa using h2
theorem Ez {es : Array MapEntry} {clock : Nat} {kv : List (List UInt8 × Value)} (hs : Stamped es clock) (h : es.toList.map Dx = kv.map Ha) : (kv.map (·.1)).Nodup := by
 have h1 : es.toList.map (·.key) = (kv.map (·.1)).map vs := by
   have := congrArg (List.map Prod.fst) h
   simpa [List.map_map, Function.comp_def, Dx, Ha] using this
 have h2 := hs.2.2
 rw [h1] at h2
 exact List.Pairwise.of_map vs (fun a b hab e => hab (by rw [e])) h2
def D5 (kv : List (List UInt8 × Value)) (k : List UInt8) (v : Value) : List (List UInt8 × Value) := if k ∈ kv.map (·.1) then kv.map (fun p => if p.1 = k then (k, v) else p) else kv ++ [(k, v)]
theorem F5 {es : Array MapEntry} {clock : Nat} {kv : List (List UInt8 × Value)} (hs : Stamped es clock) (h : es.toList.map Dx = kv.map Ha) {j : Nat} {e : MapEntry} {k : List UInt8} {v : Value} (hj : es[j]? = some e) (hk : e.key = vs k) :
   (es.modify j fun e => { e with key := vs k, val := v }).toList.map Dx = (D5 kv k v).map Ha := by
 have hn := Ez hs h
 have hat : ∀ i : Nat, (es.toList.map Dx)[i]? = (kv.map Ha)[i]? := fun i => by rw [h]
 simp only [List.getElem?_map, Array.getElem?_toList] at hat
 have hkj : ∃ p, kv[j]? = some p ∧ p.1 = k := by
   have := hat j
   rw [hj] at this
   cases hp : kv[j]? with
   | none => rw [hp] at this; cases this
   | some p =>
     rw [hp] at this
     have h1 : Dx e = Ha p := by simpa using this
     have h2 : e.key = vs p.1 := congrArg Prod.fst h1
     exact ⟨p, rfl, Z5 (h2.symm.trans hk)⟩
 obtain ⟨p, hp, hpk⟩ := hkj
 have hmem : k ∈ kv.map (·.1) := List.mem_map.2 ⟨p, List.mem_of_getElem? hp, hpk⟩
 rw [D5, if_pos hmem]
 apply List.ext_getElem?
 intro i
 simp only [List.getElem?_map, Array.getElem?_toList, Array.getElem?_modify]
 by_cases hij : j = i
 · subst hij
   rw [if_pos rfl, hj, hp]
   simp [Dx, Ha, hpk]
 rw [if_neg hij, hat i]
 cases hq : kv[i]? with
 | none => rfl
 | some q =>
   have hne : q.1 ≠ k := fun e' => by
     have h1 : (kv.map (·.1))[i]? = some k := by simp [hq, e']
     have h2 : (kv.map (·.1))[j]? = some k := by simp [hp, hpk]
     obtain ⟨hi, h3⟩ := List.getElem?_eq_some_iff.1 h1
     obtain ⟨hj', h4⟩ := List.getElem?_eq_some_iff.1 h2
     exact hij ((List.getElem_inj hn).1 (h4.trans h3.symm))
   simp [hne]
theorem Fj {es : Array MapEntry} {kv : List (List UInt8 × Value)} (h : es.toList.map Dx = kv.map Ha) : ∀ x ∈ es.toList, IsKey .string x.key := fun x hx => by
 obtain ⟨k, hk, _⟩ := E4 h x hx
 rw [hk]; trivial
section
variable {P : Program} {n : Nat} {ds : List Deferred} {l : Env} {w : World} {d : Option Tmp} {ty : TypeId} {ps : String} {af : Array Edge} {g : Option (Nat × Bool)}
theorem SEv.mapUpdate {T K E : TypeId} {m x y : Operand} {b : Nat} {k : List UInt8} {v : Value} {kv : List (List UInt8 × Value)} (hT : P.underlying T = some (.map K E)) (hK : P.underlying K = some .string) (hm : Val l m (.map (some b))) (hx : Val l x (vs k)) (hy : Val l y v) (h : IMap w b kv) :
   SEv P n ds l w ⟨none, .mapUpdate T m x y, ty, ps, af, g⟩ (fun w' => IMap w' b (D5 kv k v) ∧ Sto b w w' ∧ w'.heap.size = w.heap.size) := fun a ha => by
 obtain ⟨es, clock, hb, hs, he⟩ := h
 have hk : IsKey .string (vs k) := trivial
 have fin : ∀ o : Obj, Sto b w { w with heap := w.heap.setIfInBounds b o } := fun o => ⟨rfl, rfl, rfl, by simp, fun i _ hne => (heap_set hb).2 i hne⟩
 rcases findNow_spec hk es.toList 0 (Fj he) with ⟨h1, h2⟩ | ⟨j, e, h1, h2, h3⟩
 · refine ⟨_, Kc (w' := { w with heap := w.heap.setIfInBounds b (.map (es.push { key := vs k, val := v, born := clock }) (clock + 1)) }) ?_, ⟨_, _, (heap_set hb).1, stamped_push hs h2, ?_⟩, fin _, by simp⟩
   · rw [ha.ev hm, ha.ev hx, ha.ev hy]
     simp [Instr.mapUpdate, run_underlying hT, MapKept.run_getObj_map hb, MapKept.run_checkKey hK hk, MapKept.run_findKey hK h1, MapKept.run_setObj_map _ hb, Result.andThen]
   have hni : k ∉ kv.map (·.1) := fun hmem => by
     obtain ⟨p, hp, hpk⟩ := List.mem_map.1 hmem
     obtain ⟨x', hx', L0, _⟩ := C5 he hp
     exact h2 x' hx' (by rw [L0, hpk])
   rw [D5, if_neg hni]
   simp [he, Dx, Ha]
 have hj : es[j]? = some e := by simpa using h2
 have hkey : ∀ e', es[j]? = some e' → ({ e' with key := vs k, val := v } : MapEntry).key = e'.key := fun e' he' => by rw [hj] at he'; cases he'; exact h3.symm
 refine ⟨_, Kc (w' := { w with heap := w.heap.setIfInBounds b (.map (es.modify j fun e => { e with key := vs k, val := v }) clock) }) ?_, ⟨_, _, (heap_set hb).1, stamped_modify hs _ _ (fun _ _ => rfl) (fun e' _ he' => hkey e' he'), F5 hs he hj h3⟩, fin _, by simp⟩
 rw [ha.ev hm, ha.ev hx, ha.ev hy]
 simp [Instr.mapUpdate, run_underlying hT, MapKept.run_getObj_map hb, MapKept.run_checkKey hK hk, MapKept.run_findKey hK h1, hj, h3, run_keyThatStays hk, MapKept.run_setObj_map _ hb, Result.andThen]
theorem REv.makeMap {T : TypeId} : REv P n ds l w ⟨d, .makeMap T none, ty, ps, af, g⟩ (fun v w' => ∃ b, v = .map (some b) ∧ IMap w' b [] ∧ Up w w' ∧ b = w.heap.size ∧ w'.heap.size = b + 1) := fun a ha => by
 refine ⟨_, _, A9 (v := .map (some w.heap.size)) (w' := w.alloc (.map #[] 0)) ?_, _, rfl, ⟨_, _, (heap_alloc w _).1, stamped_empty 0, rfl⟩, Up.alloc w _, rfl, by simp⟩
 simp [Instr.makeMap, Result.andThen]
def IRng (w : World) (b r : Nat) (kv : List (List UInt8 × Value)) (done : List (List UInt8)) : Prop :=
 ∃ es clock since seen c0, w.heap[b]? = some (.map es clock) ∧ Stamped es clock ∧ es.toList.map Dx = kv.map Ha ∧ w.heap[r]? = some (.mapIter (some b) since seen c0) ∧ (∀ x ∈ es.toList, x.born < since) ∧ since ≤ c0 ∧ since ≤ clock ∧
   (∀ x ∈ es.toList, ∀ k, x.key = vs k → (seen.contains x.born = true ↔ k ∈ done)) ∧ done.Nodup ∧ ∀ k ∈ done, k ∈ kv.map (·.1)
theorem REv.range {T K E : TypeId} {m : Operand} {b : Nat} {kv : List (List UInt8 × Value)} (hT : P.underlying T = some (.map K E)) (hm : Val l m (.map (some b))) (h : IMap w b kv) :
   REv P n ds l w ⟨d, .range T m, ty, ps, af, g⟩ (fun v w' => ∃ r, v = .pointer (some ⟨r, 0, none⟩) ∧ IRng w' b r kv [] ∧ Up w w' ∧ r = w.heap.size ∧ w'.heap.size = r + 1) := fun a ha => by
 obtain ⟨es, clock, hb, hs, he⟩ := h
 refine ⟨_, _, A9 (v := .pointer (some ⟨w.heap.size, 0, none⟩)) (w' := w.alloc (.mapIter (some b) clock #[] clock)) ?_, _, rfl, ⟨es, clock, clock, #[], clock, ((heap_alloc w _).2 b (lt_of_block hb)).trans hb, hs, he, (heap_alloc w _).1, hs.1, Nat.le_refl _, Nat.le_refl _, ?_, List.nodup_nil, by simp⟩, Up.alloc w _, rfl, by simp⟩
 · rw [ha.ev hm]; exact run_range_map w T K E b es clock hT hb
 intro x _ k _; simp
theorem M5 {b r : Nat} {kv : List (List UInt8 × Value)} {done : List (List UInt8)} (ty : TypeId) (h : IRng w b r kv done) :
   ((Instr.next (.pointer (some ⟨r, 0, none⟩)) false ty).run P w = .ok (.tuple #[.bool false]) w ∧ done.Perm (kv.map (·.1))) ∨
   ∃ k u w', (Instr.next (.pointer (some ⟨r, 0, none⟩)) false ty).run P w = .ok (.tuple #[.bool true, vs k, u]) w' ∧ (k, u) ∈ kv ∧ k ∉ done ∧ IRng w' b r kv (done ++ [k]) ∧ w.grownBy w' (some r) ∧ w'.heap.size = w.heap.size ∧ (Instr.entry (.pointer (some ⟨r, 0, none⟩))).run P w' = .ok (.tuple #[vs k, u]) w' ∧ Sto r w w' ∧ ∃ o : Obj, w.heap[r]? = some o ∧ o.isWalk = true := by
 obtain ⟨es, clock, since, seen, c0, hb, hs, he, hr, hold, hsc, hsk, hd, hdn, hdk⟩ := h
 have hne : b ≠ r := fun e => by rw [e, hr] at hb; cases hb
 have hst := (stamped_iff es clock).1 hs
 rcases run_next_at (P := P) w ty r b since c0 seen es clock hr hb hold hsc with ⟨h0, hrun⟩ | ⟨e, hel, w1, hal, hrun⟩
 · refine .inl ⟨hrun, (List.perm_ext_iff_of_nodup hdn (Ez hs he)).2 fun k => ⟨hdk k, fun hk => ?_⟩⟩
   obtain ⟨p, hp, rfl⟩ := List.mem_map.1 hk
   obtain ⟨x, hx, hxk, _⟩ := C5 he hp
   exact (hd x hx _ hxk).1 (all_seen es seen h0 x hx)
 obtain ⟨hem, hes⟩ := mem_left hel
 obtain ⟨k, hk, hkv⟩ := E4 he e hem
 have hr1 : w1.heap[r]? = some (.mapIter (some b) since seen c0) := by rcases hal with rfl | rfl <;> exact hr
 have hb1 : w1.heap[b]? = some (.map es clock) := by rcases hal with rfl | rfl <;> exact hb
 have hset := heap_set (o' := .mapIter (some b) since (seen.push e.born) clock) hr1
 have hb' : (setBlock w1 r (.mapIter (some b) since (seen.push e.born) clock)).heap[b]? = some (.map es clock) := (hset.2 b hne).trans hb1
 have hnd : k ∉ done := fun hm => by have := (hd e hem k hk).2 hm; rw [hes] at this; cases this
 have hgr : w.grownBy (setBlock w1 r (.mapIter (some b) since (seen.push e.born) clock)) (some r) := by rcases hal with rfl | rfl <;> exact ⟨rfl, rfl, rfl, by simp [setBlock], fun i _ hi => hset.2 i (fun e1 => hi (by rw [e1]))⟩
 refine .inr ⟨k, e.val, _, by rw [hrun, hk], hkv, hnd, ⟨es, clock, since, seen.push e.born, clock, hb', hs, he, hset.1, hold, hsk, hsk, fun x hx k' hk' => ?_, ?_, fun k' hk' => ?_⟩, hgr, ?_, ?_, ⟨hgr.os, hgr.tape, hgr.output, hgr.size, fun i hi hne => hgr.block i hi (fun e => hne (by cases e; rfl))⟩, _, hr, rfl⟩
 · rw [contains_push, Bool.or_eq_true, hd x hx k' hk', List.mem_append, List.mem_singleton]
   refine or_congr Iff.rfl ⟨fun h1 => ?_, fun h1 => ?_⟩
   · have h2 : x.born = e.born := by simpa using h1
     have h3 := born_inj hst.2.1 hx hem h2
     rw [h3, hk] at hk'
     exact (Z5 hk').symm
   subst h1
   have := Dg hst.2.2 hx hem (hk'.trans hk.symm)
   rw [this]; simp
 · exact List.nodup_append.2 ⟨hdn, by simp, fun a ha c hc => by simp at hc; subst hc; exact fun e' => hnd (e' ▸ ha)⟩
 · rcases List.mem_append.1 hk' with h1 | h1
   · exact hdk k' h1
   simp at h1; subst h1; exact List.mem_map.2 ⟨_, hkv, rfl⟩
 · rcases hal with rfl | rfl <;> simp [setBlock]
 rw [← hk]; exact run_entry_at _ r b since seen es clock e hset.1 hb' hem hst.2.1
structure NextTo (P : Program) (w w' : World) (b r : Nat) (kv : List (List UInt8 × Value)) (done : List (List UInt8)) (k : List UInt8) (u : Value) : Prop where
 mem : (k, u) ∈ kv
 fresh : k ∉ done
 rng : IRng w' b r kv (done ++ [k])
 grown : w.grownBy w' (some r)
 size : w'.heap.size = w.heap.size
 entry : (Instr.entry (.pointer (some ⟨r, 0, none⟩))).run P w' = .ok (.tuple #[vs k, u]) w'
 sto : Sto r w w'
 walk : ∃ o : Obj, w.heap[r]? = some o ∧ o.isWalk = true
theorem REv.next {it : Operand} {b r : Nat} {kv : List (List UInt8 × Value)} {done : List (List UInt8)} (hx : Val l it (.pointer (some ⟨r, 0, none⟩))) (h : IRng w b r kv done) :
   REv P n ds l w ⟨d, .next it false, ty, ps, af, g⟩ (fun v w' => (v = .tuple #[.bool false] ∧ w' = w ∧ done.Perm (kv.map (·.1))) ∨ ∃ k u, v = .tuple #[.bool true, vs k, u] ∧ NextTo P w w' b r kv done k u) := fun a ha => by
 rcases M5 (P := P) ty h with ⟨h1, h2⟩ | ⟨k, u, w', h1, h2, h3, h4, h5, h6, h7, h8, h9⟩
 · exact ⟨_, _, A9 (by rw [ha.ev hx]; exact h1), .inl ⟨rfl, rfl, h2⟩⟩
 exact ⟨_, _, A9 (by rw [ha.ev hx]; exact h1), .inr ⟨k, u, rfl, h2, h3, h4, h5, h6, h7, h8, h9⟩⟩
theorem REv.entry {it : Operand} {r : Nat} {t : Value} (hx : Val l it (.pointer (some ⟨r, 0, none⟩))) (h : (Instr.entry (.pointer (some ⟨r, 0, none⟩))).run P w = .ok t w) :
 REv P n ds l w ⟨d, .entry it, ty, ps, af, g⟩ (fun v w' => v = t ∧ w' = w) := fun a ha => ⟨_, _, A9 (by rw [ha.ev hx]; exact h), rfl, rfl⟩
theorem PEv.C1 {d : Option Tmp} {ty : TypeId} {ps : String} {af : Array Edge} {g : Option (Nat × Bool)} {T K E : TypeId} {mo x : Operand} {b : Nat} {k : List UInt8} {v : Value} {kv : List (List UInt8 × Value)} {ok : Bool} (hT : P.underlying T = some (.map K E)) (hK : P.underlying K = some .string) (hm : Val l mo (.map (some b))) (hx : Val l x (vs k)) (h : IMap w b kv) (hkv : (k, v) ∈ kv) :
   PEv P n ds l w ⟨d, .lookup T mo x ok, ty, ps, af, g⟩ (if ok then .tuple #[v, .bool true] else v) := fun a w' ha hu => by
 obtain ⟨es, clock, hb, hs, he⟩ := h.up hu
 have hk : IsKey .string (vs k) := trivial
 refine A9 ?_
 rw [ha.ev hm, ha.ev hx]
 rcases findNow_spec hk es.toList 0 (Fj he) with ⟨h1, h2⟩ | ⟨j, e, h1, h2, h3⟩
 · exfalso
   obtain ⟨x', hx', L0, _⟩ := C5 he hkv
   exact h2 x' hx' L0
 obtain ⟨x', hx', L0, hvx⟩ := C5 he hkv
 have hv : e.val = v := by
   have := Dg (List.pairwise_map.1 hs.2.2) (List.mem_of_getElem? h2) hx' (by rw [h3, L0])
   rw [this]; exact hvx
 cases ok <;> simp [Instr.lookup, run_underlying hT, MapKept.run_getObj_map hb, MapKept.run_checkKey hK hk, MapKept.run_findKey hK h1, Result.andThen, hv]
theorem PEv.G4 {d : Option Tmp} {ty : TypeId} {ps : String} {af : Array Edge} {g : Option (Nat × Bool)} {T K E : TypeId} {mo x : Operand} {b : Nat} {k : List UInt8} {z : Value} {kv : List (List UInt8 × Value)} {ok : Bool} (hT : P.underlying T = some (.map K E)) (hK : P.underlying K = some .string) (hz : ∀ w, (zeroValue E).run P w = .ok z w) (hm : Val l mo (.map (some b))) (hx : Val l x (vs k)) (h : IMap w b kv) (hkv : k ∉ kv.map (·.1)) :
   PEv P n ds l w ⟨d, .lookup T mo x ok, ty, ps, af, g⟩ (if ok then .tuple #[z, .bool false] else z) := fun a w' ha hu => by
 obtain ⟨es, clock, hb, hs, he⟩ := h.up hu
 have hk : IsKey .string (vs k) := trivial
 refine A9 ?_
 rw [ha.ev hm, ha.ev hx]
 rcases findNow_spec hk es.toList 0 (Fj he) with ⟨h1, h2⟩ | ⟨j, e, h1, h2, h3⟩
 · cases ok <;> simp [Instr.lookup, run_underlying hT, MapKept.run_getObj_map hb, MapKept.run_checkKey hK hk, MapKept.run_findKey hK h1, Result.andThen, hz]
 exfalso
 obtain ⟨k', hk', hkv'⟩ := E4 he e (List.mem_of_getElem? h2)
 have : k' = k := Z5 (hk'.symm.trans h3)
 exact hkv (List.mem_map.2 ⟨_, hkv', this⟩)
end
end Go.Wx.Ms
end
