import Derived.Test.YtbbpkdlehlamlaaGreatDoorKR411
section
namespace Go.Wx
def cmpI (a b : Int) : Int := if a < b then -1 else if b < a then 1 else 0
def orI : List Int → Int
 | [] => 0
 | x :: l => if x = 0 then orI l else x
def cmpK (p q : K2) : Int := orI [cmpI p.1 q.1, cmpI p.2 q.2]
theorem cmpK_neg (p q : K2) : decide (cmpK p q < 0) = ltK p q := by
 unfold cmpK orI orI orI cmpI ltK
 by_cases h1 : p.1 < q.1
 · simp [h1]
 by_cases h2 : q.1 < p.1
 · have : ¬ p.1 = q.1 := by omega
   simp [h1, h2, this]
 have e : p.1 = q.1 := by omega
 by_cases h3 : p.2 < q.2
 · simp [e, h3]
 by_cases h4 : q.2 < p.2
 · simp [e, h3, h4]
 simp [e, h3, h4]
theorem orI_drop {l : List Int} {k : Nat} {x : Int} (h : l[k]? = some x) : orI (l.drop k) = if x = 0 then orI (l.drop (k + 1)) else x := by
 obtain ⟨hk, e⟩ := gQ.1 h
 rw [List.drop_eq_getElem_cons hk, e]; rfl
theorem vi_agg (p : K2) : (#[vi p.1, vi p.2] : Array Go.Value).size = 2 ∧ (#[vi p.1, vi p.2] : Array Go.Value).all (·.oneCell') = true := by simp [Value.oneCell']
end Go.Wx
namespace Go.Proofs.YtbbpkdlehlamlaaGreatDoor
open Go.Proofs.Tryz
open Go.Wx Go.RowKit
theorem isNaN_any (a : Int) (w : World) : Ret prog 212 #[vi a] w fun r w' => r = .bool false ∧ Up w w' := by
 have hW := Up.refl w
 refine cS (n := 6) (m := 9) func212 rfl rfl rfl (CW.S (LW.C (LW.S (CW.region (LW.M rfl (LW.M rfl (LW.pp (.fa (PEv.neq (.t rfl) (.t rfl)) (by simp)) (LW.A rfl (LW.T (CW.ret (KW.ret1 rfl rfl ⟨_, rfl, ?_⟩)))))))))))
 exact ⟨rfl, hW⟩
theorem cmpInt_any (a b : Int) (w : World) : Ret prog 138 #[vi a, vi b] w fun r w' => r = vi (cmpI a b) ∧ Up w w' := by
 have hW := Up.refl w
 refine cS (n := 20) (m := 9) func138 rfl rfl rfl (CW.S (LW.C (LW.S (CW.region (LW.M rfl (LW.K (eC (.o rfl) (en212)) rfl (isNaN_any _ _) ?_))))))
 rintro _ w1 ⟨rfl, uw1⟩
 replace hW := hW.up uw1
 refine LW.A rfl (LW.S (CW.region (LW.M rfl (LW.K (eC (.o rfl) (en212)) rfl (isNaN_any _ _) ?_))))
 rintro _ w2 ⟨rfl, uw2⟩
 replace hW := hW.up uw2
 refine LW.A rfl (LW.S (CW.S (LW.M rfl (LW.T (CW.cond_false (.t rfl) (CW.skip (KW.then (CW.seq (CW.S (LW.M rfl (LW.T (CW.cond_false (.t rfl) (CW.skip (KW.then (CW.seq (CW.S (LW.M rfl (LW.M rfl (LW.pp (.lss (.t rfl) (.t rfl)) (LW.T (CW.cond (.t rfl) (fun h16 => ?_) (fun h16 => ?_))))))))))))))))))))))
 ·replace h16 := dQ h16
  refine CW.S (LW.C (LW.T (CW.ret (KW.then_ret (KW.ret1 rfl rfl ⟨_, rfl, ?_⟩)))))
  refine ⟨congrArg vi ?_, hW⟩
  unfold cmpI
  (rw [if_pos (by omega)])
 replace h16 := dQ h16
 refine CW.skip (KW.then (CW.seq (CW.S (LW.M rfl (LW.M rfl (LW.pp (.gtr (.t rfl) (.t rfl)) (LW.T (CW.cond (.t rfl) (fun h19 => ?_) (fun h19 => ?_)))))))))
 ·replace h19 := dQ h19
  refine CW.S (LW.C (LW.T (CW.ret (KW.then_ret (KW.ret1 rfl rfl ⟨_, rfl, ?_⟩)))))
  refine ⟨congrArg vi ?_, hW⟩
  unfold cmpI
  (rw [if_neg oQ, if_pos (by omega)])
 replace h19 := dQ h19
 refine CW.skip (KW.then (CW.S (LW.C (LW.T (CW.ret (KW.ret1 rfl rfl ⟨_, rfl, ?_⟩))))))
 refine ⟨congrArg vi ?_, hW⟩
 unfold cmpI
 (rw [if_neg oQ, if_neg (by omega)])
theorem or_any (ad : Option Addr) (cp : Nat) (l : List Int) (w : World) (hE0 : Els w ad 1 eInt l) (hl : l.length ≤ 1000) : Ret prog 137 #[.slice ad l.length cp] w fun r w' => r = vi (orI l) ∧ Up w w' := by
 have hW := Up.refl w
 obtain ⟨w0, rfl⟩ : ∃ w0, w0 = w := ⟨_, rfl⟩
 refine cS (n := 18) (m := 9) func137 rfl rfl rfl (CW.S (LW.C (LW.S (CW.region (LW.C (LW.S (CW.S (LW.M rfl (LW.pp (.lenS underlying46 (.t rfl)) (LW.pp (.move (.const _)) (LW.T (CW.block (CW.loopB (σ := Nat) (fun s w => (s ≤ l.length) ∧ (orI l = orI (l.drop s)) ∧ (Up w0 w)) (fun s => [(8, .eq (vi (s : Int)))]) ([(3, .eq _), (6, .eq _), (7, .eq _)]) (fun s => l.length - s) 0 ?_ ⟨rfl, rfl, rfl, rfl, trivial⟩ ?_)))))))))))))
 ·exact ⟨Nat.zero_le _, rfl, Up.refl _⟩
 rintro k w1 ⟨hkk, hor, hL1⟩
 replace hW := hW.up hL1
 refine CW.S (LW.pp (.lss (.t rfl) (.t rfl)) (LW.S (CW.cond (.t rfl) (fun h9 => ?_) (fun h9 => ?_))))
 ·refine CW.skip (KW.then (CW.seq (CW.block (CW.seq ?_))))
  have hE := Els.up hE0 hW
  have hkl : k < l.length := by simp at h9; omega
  refine CW.region ?_
  obtain ⟨x, hx⟩ := getElem?_of_lt (xs := l) (i := k) oQ
  obtain ⟨Bx, ox, ax, hcx⟩ := hE _ x hx
  refine LW.pp (.indexAddr' underlying46 sizeOf3 (.t rfl) (.t rfl) oQ ax) (LW.pp (.ld isAgg3 rfl (hcx.nth (j := 0) rfl)) (LW.A rfl (LW.S (CW.region (LW.M rfl (LW.M rfl (LW.pp (.neq (.t rfl) (.t rfl)) (LW.T (CW.cond (.t rfl) (fun h14 => ?_) (fun h14 => ?_))))))))))
  ·refine CW.S (LW.M rfl (LW.A rfl (LW.T (CW.ret (KW.block_ret (KW.then_ret (KW.then_ret (KW.block_ret (KW.then_ret (KW.ret1 rfl rfl ⟨_, rfl, ?_⟩))))))))))
   refine ⟨congrArg vi ?_, hW⟩
   rw [hor]
   (rw [orI_drop hx, if_neg (by simpa using h14)])
  refine CW.skip (KW.inBlock (KW.then (CW.region (LW.pp (.inc (.t rfl) oQ) (LW.M rfl (LW.nil (KW.round ?_)))))))
  exact ⟨k + 1, ⟨by omega, by rw [hor, orI_drop hx, if_pos (by simpa using h14)], hL1⟩, ⟨rfl, rfl, rfl, rfl, trivial⟩, by omega⟩
 refine CW.exit (KW.then_exit (KW.then_exit (KW.block_hit (KW.then (CW.S (LW.M rfl (LW.A rfl (LW.T (CW.ret (KW.ret1 rfl rfl ⟨_, rfl, ?_⟩))))))))))
 refine ⟨congrArg vi ?_, hW⟩
 rw [hor]
 (rw [List.drop_eq_nil_of_le (by simp at h9; omega)]; rfl)
theorem order_cmp (of : Nat) (key : Fact → K2) (hen : ∀ args w, (callFunc of args).run prog w = .ok (.enter of args) w) (hord : ∀ W x, Ret prog of #[.agg x.cells] W fun r W' => r = .agg #[vi (key x).1, vi (key x).2] ∧ Up W W') (a b : Fact) (Bc : Nat) (w : World) (hC0 : Blk w Bc #[.func (.func of) #[] #[]] 122) : Ret prog 136 #[.agg a.cells, .agg b.cells, .pointer (some ⟨Bc, 0, none⟩)] w fun r w' => r = vi (cmpK (key a) (key b)) ∧ Up w w' := by
 have hW := Up.refl w
 have hC := hC0
 refine cS (n := 26) (m := 9) func136 rfl rfl rfl (CW.S (LW.rr (.boxA (.t rfl)) rfl ?_))
 rintro _ w1 ⟨B3, rfl, NB3⟩
 replace hW := hW.up NB3.up
 replace hC := hC.up NB3.up
 have hB3 := NB3.blk
 refine LW.rr (.boxA (.t rfl)) rfl ?_
 rintro _ w2 ⟨B4, rfl, NB4⟩
 replace hW := hW.up NB4.up
 replace hC := hC.up NB4.up
 replace hB3 := hB3.up NB4.up
 have hB4 := NB4.blk
 refine LW.C (LW.S (CW.vars 10 [⟨6, 8, 2, 6, 10⟩, ⟨7, 9, 5, 7, 13⟩] #[vi 0, vi 0] [.eq (.func (.func of) #[] #[]), .eq (.agg a.cells), .eq (.agg #[vi (key a).1, vi (key a).2]), .eq (.func (.func of) #[] #[]), .eq (.agg b.cells), .eq (.agg #[vi (key b).1, vi (key b).2]), .pred fun v _ => ∃ B, v = .pointer (some ⟨B, 0, none⟩), .pred fun v _ => ∃ B, v = .pointer (some ⟨B, 0, none⟩), .eq undef, .eq undef] [6, 7] zeroValue182 sizeOf182 kQ rfl kQ kQ kQ kQ kQ kQ kQ kQ cQ kQ kQ ?_ ?_ ⟨PhT.eq _ _, PhT.eq _ _, PhT.eq _ _, PhT.eq _ _, PhT.eq _ _, PhT.eq _ _, PhT.pred fun _ _ _ h _ => h, PhT.pred fun _ _ _ h _ => h, PhT.eq _ _, PhT.eq _ _, trivial⟩ ?_ ?_ ?_ ?_ ?_))
 ·intro v hv; simp only [List.mem_cons, List.mem_nil_iff, or_false] at hv; rcases hv with rfl | rfl <;> exact ⟨_, _, _, rfl⟩
 ·intro v hv; simp only [List.mem_cons, List.mem_nil_iff, or_false] at hv; rcases hv with rfl | rfl <;> exact ⟨_, _, _, rfl⟩
 ·intro v hv; simp only [List.mem_cons, List.mem_nil_iff, or_false] at hv; rcases hv with rfl | rfl <;> (intro o ho; cases ho; rfl)
 ·intro v hv; simp only [List.mem_cons, List.mem_nil_iff, or_false] at hv; rcases hv with rfl | rfl
  ·exact fun v W h => ⟨_, h, rfl, (vi_agg (key a)).2⟩
  exact fun v W h => ⟨_, h, rfl, (vi_agg (key b)).2⟩
 ·intro v hv; simp only [List.mem_cons, List.mem_nil_iff, or_false] at hv; rcases hv with rfl | rfl <;> exact fun B W => ⟨B, rfl⟩
 ·intro W hK0
  have hK := (Up.drew w2).keepT.trans hK0
  have hCW := Blk.keepT hC (T := 182) rfl hK
  have hB3W := Blk.keepT hB3 (T := 182) rfl hK
  have hB4W := Blk.keepT hB4 (T := 182) rfl hK
  refine aC (.inr ⟨rfl, TU.p (.ld isAgg122 rfl (hCW.celln rfl)) rfl⟩) (aC (.inr ⟨rfl, TU.p (.la isAgg24 sizeOf24 rfl (hB3W.agg)) rfl⟩) (aC (.inr ⟨rfl, TU.c (enter_callv (.t rfl) (.cons (.t rfl) .nil) hen) (hord _ a) sQ⟩) (aC (.inr ⟨rfl, TU.p (.ld isAgg122 rfl (hCW.celln rfl)) rfl⟩) (aC (.inr ⟨rfl, TU.p (.la isAgg24 sizeOf24 rfl (hB4W.agg)) rfl⟩) (aC (.inr ⟨rfl, TU.c (enter_callv (.t rfl) (.cons (.t rfl) .nil) hen) (hord _ b) sQ⟩) (aC (.inl (by simp)) (aC (.inl (by simp)) (aC (.inl (by simp)) (aC (.inl (by simp)) ?_)))))))))
  exact allL.nil
 intro wT g hU0 hbl hpw hg
 have hU := (Up.drew w2).trans hU0
 obtain ⟨B6, e6, z6, hB6⟩ := hbl ⟨6, 8, 2, 6, 10⟩ (by simp)
 obtain ⟨B7, e7, z7, hB7⟩ := hbl ⟨7, 9, 5, 7, 13⟩ (by simp)
 have e10 : g 10 = .agg #[vi (key a).1, vi (key a).2] := hg 2 _ 10 cQ rfl rfl
 have e13 : g 13 = .agg #[vi (key b).1, vi (key b).2] := hg 5 _ 13 cQ rfl rfl
 replace e6 : g 6 = .pointer (some ⟨B6, 0, none⟩) := e6
 replace e7 : g 7 = .pointer (some ⟨B7, 0, none⟩) := e7
 change LW _ _ _ _ _ _ _ _ ((6, .eq (g 6)) :: (7, .eq (g 7)) :: _) _
 rw [e6, e7]
 rw [e10] at hB6
 rw [e13] at hB7
 replace hB6 : Blk wT B6 #[vi (key a).1, vi (key a).2] 182 := hB6
 replace hB7 : Blk wT B7 #[vi (key b).1, vi (key b).2] 182 := hB7
 replace hW := hW.trans hU
 refine LW.S (CW.free 11 [.eq (.pointer (some ⟨B6, 0, none⟩)), .eq (vi (key a).1), .eq (.pointer (some ⟨B7, 0, none⟩)), .eq (vi (key b).1), .eq (vi (cmpI (key a).1 (key b).1)), .eq (.pointer (some ⟨B6, 1, none⟩)), .eq (vi (key a).2), .eq (.pointer (some ⟨B7, 1, none⟩)), .eq (vi (key b).2), .eq (vi (cmpI (key a).2 (key b).2)), .pred (fun v w => SlT 3 w v 1 eInt [cmpI (key a).1 (key b).1, cmpI (key a).2 (key b).2])] [24] kQ rfl kQ kQ kQ kQ kQ kQ kQ ⟨PhU.eq _, PhU.eq _, PhU.eq _, PhU.eq _, PhU.eq _, PhU.eq _, PhU.eq _, PhU.eq _, PhU.eq _, PhU.eq _, PhU.pred fun _ _ _ h u => SlT.cel h u.cel, trivial⟩ ?_ ?_)
 ·intro W hU0
  have hU := (Up.drew wT).trans hU0
  refine aC ⟨rfl, TU.p (.indexArr (j := 0) underlying182 sizeOf3 (.t rfl) (.const _) cQ) rfl⟩ (aC ⟨rfl, TU.p (.ld isAgg3 rfl ((hB6.up hU).celln rfl)) rfl⟩ (aC ⟨rfl, TU.p (.indexArr (j := 0) underlying182 sizeOf3 (.t rfl) (.const _) cQ) rfl⟩ (aC ⟨rfl, TU.p (.ld isAgg3 rfl ((hB7.up hU).celln rfl)) rfl⟩ (aC ⟨rfl, TU.c (eC (.u rfl rfl) (en138)) (cmpInt_any _ _ _) sQ⟩ (aC ⟨rfl, TU.p (.indexArr (j := 1) underlying182 sizeOf3 (.t rfl) (.const _) cQ) rfl⟩ (aC ⟨rfl, TU.p (.ld isAgg3 rfl ((hB6.up hU).celln rfl)) rfl⟩ (aC ⟨rfl, TU.p (.indexArr (j := 1) underlying182 sizeOf3 (.t rfl) (.const _) cQ) rfl⟩ (aC ⟨rfl, TU.p (.ld isAgg3 rfl ((hB7.up hU).celln rfl)) rfl⟩ (aC ⟨rfl, TU.c (eC (.u rfl rfl) (en138)) (cmpInt_any _ _ _) sQ⟩ (aC ⟨rfl, TU.r (REv.buildSlice (xs := [cmpI (key a).1 (key b).1, cmpI (key a).2 (key b).2]) (enc := eInt) (mk := vi) underlying46 sizeOf3 zeroValue3 rfl cQ (fun _ => rfl) (fun _ => rfl) (.cons (.t rfl) (.cons (.t rfl) .nil)) rfl) (by rintro _ W1 ⟨B, c, rfl, N, y, x⟩; exact ⟨N.up, SlT.lit ⟨B, c, rfl, N, y, x⟩⟩)⟩ ?_))))))))))
  exact allL.nil
 intro w3 g hU0 hg
 have hU := (Up.drew wT).trans hU0
 replace hW := hW.up hU
 replace hB6 := hB6.up hU
 replace hB7 := hB7.up hU
 obtain ⟨⟨ad, cp, e24, hE⟩, _⟩ := hg 10 _ 24 cQ rfl rfl
 change LW _ _ _ _ _ _ _ _ ((24, .eq (g 24)) :: _) _
 rw [e24]
 refine LW.K (eC (.o rfl) (en137)) rfl (or_any ad cp _ _ hE (by simp)) ?_
 rintro _ w4 ⟨rfl, uw4⟩
 replace hW := hW.up uw4
 replace hB6 := hB6.up uw4
 replace hB7 := hB7.up uw4
 refine LW.A rfl (LW.T (CW.ret (KW.ret1 rfl rfl ⟨_, rfl, ?_⟩)))
 exact ⟨rfl, hW⟩
end Go.Proofs.YtbbpkdlehlamlaaGreatDoor
namespace Go.Proofs.YtbbpkdlehlamlaaGreatDoor
open Go.Proofs.Tryz
open Go.Wx Go.RowKit
theorem swapRange_any (a b n : Nat) (fv : Go.Value) (g m cp : Nat) (xs : List Fact) (w : World) (ho : OwnS w 0 24 19 Fact.cells (.slice (some ⟨g, 0, none⟩) m cp) xs) (h63 : m ≤ 1000000000) (h1 : a + n ≤ b) (h2 : b + n ≤ m) : Ret prog 244 #[.slice (some ⟨g, 0, none⟩) m cp, vi (a : Int), vi (b : Int), vi (n : Int), fv] w fun r w' => r = .tuple #[] ∧ Stp (aOwn 24 19 Fact.cells (.slice (some ⟨g, 0, none⟩) m cp) (xs)) (aOwn 24 19 Fact.cells (.slice (some ⟨g, 0, none⟩) m cp) (swR xs a b n)) w w' := by
 obtain ⟨w0, rfl⟩ : ∃ w0, w0 = w := ⟨_, rfl⟩
 have hxl := ho.len
 have hS : Wx.Sep (aOwn 24 19 Fact.cells (.slice (some ⟨g, 0, none⟩) m cp) (xs)).foot w0 w0 [aOwn 24 19 Fact.cells (.slice (some ⟨g, 0, none⟩) m cp) (xs)] := Sep.cons ho (fun _ h => h) (Sep.start _ _) (by simp)
 refine cS (n := 38) (m := 9) func244 rfl rfl rfl (CW.S (LW.C (LW.T (CW.block (CW.loopB (σ := Nat) (fun s w => (s ≤ n) ∧ (Wx.Sep (aOwn 24 19 Fact.cells (.slice (some ⟨g, 0, none⟩) m cp) (xs)).foot w0 w [aOwn 24 19 Fact.cells (.slice (some ⟨g, 0, none⟩) m cp) (swR xs a b s)])) (fun s => [(10, .eq (vi (s : Int)))]) ([(0, .eq _), (1, .eq _), (2, .eq _), (3, .eq _)]) (fun s => n - s) 0 ?_ ⟨rfl, rfl, rfl, rfl, rfl, trivial⟩ ?_)))))
 ·exact ⟨Nat.zero_le _, hS⟩
 rintro i w1 ⟨hin, hS⟩
 refine CW.seq (CW.S (LW.M rfl (LW.M rfl (LW.pp (.lss (.t rfl) (.t rfl)) (LW.T (CW.cond (.t rfl) (fun h13 => ?_) (fun h13 => ?_)))))))
 ·refine CW.skip (KW.then (CW.seq (CW.block ?_)))
  have hil : i < n := by simp at h13; omega
  have hsl := swR_length xs a b i
  obtain ⟨x, hx⟩ := getElem?_of_lt (xs := swR xs a b i) (i := a + i) oQ
  obtain ⟨y, hy⟩ := getElem?_of_lt (xs := swR xs a b i) (i := b + i) oQ
  refine CW.stores2 21 23 [.slice (some ⟨g, 0, none⟩) m cp, vi ((a : Nat) : Int), vi ((i : Nat) : Int), vi ((a + i : Nat) : Int), .slice (some ⟨g, 0, none⟩) m cp, vi ((b : Nat) : Int), vi ((i : Nat) : Int), vi ((b + i : Nat) : Int), .slice (some ⟨g, 0, none⟩) m cp, vi ((b : Nat) : Int), vi ((i : Nat) : Int), vi ((b + i : Nat) : Int), .pointer (some ⟨g, 0 + (b + i) * 19, none⟩), .agg (Fact.cells y), .slice (some ⟨g, 0, none⟩) m cp, vi ((a : Nat) : Int), vi ((i : Nat) : Int), vi ((a + i : Nat) : Int), .pointer (some ⟨g, 0 + (a + i) * 19, none⟩), .agg (Fact.cells x), .pointer (some ⟨g, 0 + (a + i) * 19, none⟩), undef, .pointer (some ⟨g, 0 + (b + i) * 19, none⟩), undef] (fun W => Wx.Sep (aOwn 24 19 Fact.cells (.slice (some ⟨g, 0, none⟩) m cp) (xs)).foot w0 W [aOwn 24 19 Fact.cells (.slice (some ⟨g, 0, none⟩) m cp) (swR xs a b i)]) (fun W => Wx.Sep (aOwn 24 19 Fact.cells (.slice (some ⟨g, 0, none⟩) m cp) (xs)).foot w0 W [aOwn 24 19 Fact.cells (.slice (some ⟨g, 0, none⟩) m cp) ((swR xs a b i).set (a + i) y)]) (fun W => Wx.Sep (aOwn 24 19 Fact.cells (.slice (some ⟨g, 0, none⟩) m cp) (xs)).foot w0 W [aOwn 24 19 Fact.cells (.slice (some ⟨g, 0, none⟩) m cp) (((swR xs a b i).set (a + i) y).set (b + i) x)]) kQ rfl kQ kQ kQ kQ kQ kQ (hS.up (Up.drew _)) ?_ _ _ rfl rfl ⟨rfl, rfl⟩ ⟨rfl, rfl⟩ ?_ ?_ ?_
  ·refine aC (.inr ⟨rfl, .inr fun W => PEv.move (.t rfl)⟩) (aC (.inr ⟨rfl, .inr fun W => PEv.move (.t rfl)⟩) (aC (.inr ⟨rfl, .inr fun W => PEv.move (.t rfl)⟩) (aC (.inr ⟨rfl, .inr fun W => PEv.addN (.t rfl) (.t rfl) oQ⟩) (aC (.inr ⟨rfl, .inr fun W => PEv.move (.t rfl)⟩) (aC (.inr ⟨rfl, .inr fun W => PEv.move (.t rfl)⟩) (aC (.inr ⟨rfl, .inr fun W => PEv.move (.t rfl)⟩) (aC (.inr ⟨rfl, .inr fun W => PEv.addN (.t rfl) (.t rfl) oQ⟩) (aC (.inr ⟨rfl, .inr fun W => PEv.move (.t rfl)⟩) (aC (.inr ⟨rfl, .inr fun W => PEv.move (.t rfl)⟩) (aC (.inr ⟨rfl, .inr fun W => PEv.move (.t rfl)⟩) (aC (.inr ⟨rfl, .inr fun W => PEv.addN (.t rfl) (.t rfl) oQ⟩) (aC (.inr ⟨rfl, .inr fun W => PEv.indexAddr underlying26 sizeOf24 (.t rfl) (.t rfl) oQ⟩) (aC (.inr ⟨rfl, .inl ⟨by kernel_rfl, fun W hS => PEv.la isAgg24 sizeOf24 rfl ((hS.own 0 rfl).at (fun _ => rfl) hy)⟩⟩) (aC (.inr ⟨rfl, .inr fun W => PEv.move (.t rfl)⟩) (aC (.inr ⟨rfl, .inr fun W => PEv.move (.t rfl)⟩) (aC (.inr ⟨rfl, .inr fun W => PEv.move (.t rfl)⟩) (aC (.inr ⟨rfl, .inr fun W => PEv.addN (.t rfl) (.t rfl) oQ⟩) (aC (.inr ⟨rfl, .inr fun W => PEv.indexAddr underlying26 sizeOf24 (.t rfl) (.t rfl) oQ⟩) (aC (.inr ⟨rfl, .inl ⟨by kernel_rfl, fun W hS => PEv.la isAgg24 sizeOf24 rfl ((hS.own 0 rfl).at (fun _ => rfl) hx)⟩⟩) (aC (.inr ⟨rfl, .inr fun W => PEv.indexAddr underlying26 sizeOf24 (.t rfl) (.t rfl) oQ⟩) (aC (.inl (by simp)) (aC (.inr ⟨rfl, .inr fun W => PEv.indexAddr underlying26 sizeOf24 (.t rfl) (.t rfl) oQ⟩) (aC (.inl (by simp)) ?_)))))))))))))))))))))))
   exact allL.nil
  ·intro W hS
   exact SEv.mono (SEv.storeOwnA (i := a + i) (z := y) sizeOf24 (fun _ => rfl) Fact.one (.t rfl) (.t rfl) (hS.own 0 rfl) oQ) (fun _ h => hS.stp 0 rfl h)
  ·intro W hS
   exact SEv.mono (SEv.storeOwnA (i := b + i) (z := x) sizeOf24 (fun _ => rfl) Fact.one (.t rfl) (.t rfl) (hS.own 0 rfl) oQ) (fun _ h => hS.stp 0 rfl h)
  intro w2 hS
  have hS : Wx.Sep (aOwn 24 19 Fact.cells (.slice (some ⟨g, 0, none⟩) m cp) (xs)).foot w0 w2 [aOwn 24 19 Fact.cells (.slice (some ⟨g, 0, none⟩) m cp) (((swR xs a b i).set (a + i) y).set (b + i) x)] := hS
  refine KW.inBlock (KW.then (CW.region (LW.M rfl (LW.pp (.inc (.t rfl) oQ) (LW.A rfl (LW.nil (KW.round ?_)))))))
  exact ⟨i + 1, ⟨by omega, by rw [swR, swp_of hx hy]; exact hS⟩, ⟨rfl, rfl, rfl, rfl, rfl, trivial⟩, by omega⟩
 refine CW.exit (KW.then_exit (KW.then_exit (KW.block_hit (KW.end0 rfl ⟨_, rfl, ?_⟩))))
 have hin2 : i = n := by simp at h13; omega
 subst hin2
 exact ⟨rfl, ⟨hS.fr, hS.get 0 rfl, fun _ h => .inl h⟩⟩
end Go.Proofs.YtbbpkdlehlamlaaGreatDoor
namespace Go.Proofs.YtbbpkdlehlamlaaGreatDoor
open Go.Proofs.Tryz
open Go.Wx Go.RowKit
theorem rotate_any (a mm b : Nat) (fv : Go.Value) (g m cp : Nat) (xs : List Fact) (w : World) (ho : OwnS w 0 24 19 Fact.cells (.slice (some ⟨g, 0, none⟩) m cp) xs) (h63 : m ≤ 1000000000) (h1 : a < mm) (h2 : mm < b) (h3 : b ≤ m) : Ret prog 243 #[.slice (some ⟨g, 0, none⟩) m cp, vi (a : Int), vi (mm : Int), vi (b : Int), fv] w fun r w' => r = .tuple #[] ∧ Stp (aOwn 24 19 Fact.cells (.slice (some ⟨g, 0, none⟩) m cp) (xs)) (aOwn 24 19 Fact.cells (.slice (some ⟨g, 0, none⟩) m cp) (rot xs a mm b)) w w' := by
 obtain ⟨w0, rfl⟩ : ∃ w0, w0 = w := ⟨_, rfl⟩
 have hxl := ho.len
 have hS : Wx.Sep (aOwn 24 19 Fact.cells (.slice (some ⟨g, 0, none⟩) m cp) (xs)).foot w0 w0 [aOwn 24 19 Fact.cells (.slice (some ⟨g, 0, none⟩) m cp) (xs)] := Sep.cons ho (fun _ h => h) (Sep.start _ _) (by simp)
 refine cS (n := 58) (m := 9) func243 rfl rfl rfl (CW.S (LW.M rfl (LW.M rfl (LW.pp (.subN (.t rfl) (.t rfl) oQ oQ) (LW.A rfl (LW.S (CW.region (LW.M rfl (LW.M rfl (LW.pp (.subN (.t rfl) (.t rfl) oQ oQ) (LW.A rfl (LW.S (CW.block (CW.loopB (σ := Nat × Nat × List Fact) (fun s w => (0 < s.1 ∧ 0 < s.2.1 ∧ s.1 ≤ mm - a ∧ s.2.1 ≤ b - mm) ∧ (s.2.2.length = m) ∧ (rot s.2.2 (mm - s.1) mm (mm + s.2.1) = rot xs a mm b) ∧ (Wx.Sep (aOwn 24 19 Fact.cells (.slice (some ⟨g, 0, none⟩) m cp) (xs)).foot w0 w [aOwn 24 19 Fact.cells (.slice (some ⟨g, 0, none⟩) m cp) (s.2.2)])) (fun s => [(10, .eq (vi (s.1 : Int))), (11, .eq (vi (s.2.1 : Int)))]) ([(0, .eq _), (2, .eq _), (4, .eq _)]) (fun s => s.1 + s.2.1) (mm - a, b - mm, xs) ?_ ⟨rfl, rfl, rfl, rfl, rfl, trivial⟩ ?_))))))))))))))
 ·exact ⟨⟨by show 0 < mm - a; omega, by show 0 < b - mm; omega, Nat.le_refl _, Nat.le_refl _⟩, hxl, by rw [show mm - (mm - a) = a by omega, show mm + (b - mm) = b by omega], hS⟩
 rintro ⟨i, j, ys⟩ w1 ⟨hij, hyl, hrt, hS⟩
 dsimp only at hij hyl hrt hS
 change CW _ _ _ _ _ _ _ ([(10, .eq (vi (i : Int))), (11, .eq (vi (j : Int)))] ++ _) _
 refine CW.seq (CW.S (LW.M rfl (LW.M rfl (LW.pp (.neq (.t rfl) (.t rfl)) (LW.T (CW.cond (.t rfl) (fun h20 => ?_) (fun h20 => ?_)))))))
 ·replace h20 := dQ h20
  have hne0 : ¬ ((i : Int) = j) := by simpa using h20
  have hne : i ≠ j := by omega
  refine CW.skip (KW.then (CW.block (CW.S (LW.M rfl (LW.M rfl (LW.pp (.gtr (.t rfl) (.t rfl)) (LW.T (CW.cond (.t rfl) (fun h23 => ?_) (fun h23 => ?_)))))))))
  ·replace h23 := dQ h23
   refine CW.S (LW.M rfl (LW.M rfl (LW.M rfl (LW.pp (.subN (.t rfl) (.t rfl) oQ oQ) (LW.M rfl (LW.M rfl (LW.M rfl (LW.K (eC (.cons (.t rfl) (.cons (.t rfl) (.cons (.t rfl) (.cons (.t rfl) (.cons (.t rfl) .nil))))) (en244)) rfl (swapRange_any (mm - i) mm j _ g m cp ys _ (hS.own 0 rfl) h63 oQ oQ) ?_))))))))
   rintro _ w2 ⟨rfl, uw2⟩
   replace hS := hS.stp 0 rfl uw2
   refine LW.T (CW.region (LW.M rfl (LW.M rfl (LW.pp (.subN (.t rfl) (.t rfl) oQ oQ) (LW.A rfl (LW.nil (KW.inBlock (KW.round ?_))))))))
   exact ⟨(i - j, j, swR ys (mm - i) mm j), ⟨⟨by show 0 < i - j; omega, by show 0 < j; omega, by show i - j ≤ mm - a; omega, by show j ≤ b - mm; omega⟩, by rw [swR_length]; exact hyl, by rw [← hrt]; exact rot_big oQ oQ oQ oQ, hS⟩, ⟨rfl, rfl, rfl, rfl, rfl, trivial⟩, by (dsimp only; omega)⟩
  replace h23 := dQ h23
  refine CW.S (LW.M rfl (LW.M rfl (LW.M rfl (LW.pp (.subN (.t rfl) (.t rfl) oQ oQ) (LW.M rfl (LW.M rfl (LW.pp (.addN (.t rfl) (.t rfl) oQ) (LW.M rfl (LW.pp (.subN (.t rfl) (.t rfl) oQ oQ) (LW.M rfl (LW.M rfl (LW.K (eC (.cons (.t rfl) (.cons (.t rfl) (.cons (.t rfl) (.cons (.t rfl) (.cons (.t rfl) .nil))))) (en244)) rfl (swapRange_any (mm - i) (mm + j - i) i _ g m cp ys _ (hS.own 0 rfl) h63 oQ oQ) ?_))))))))))))
  rintro _ w3 ⟨rfl, uw3⟩
  replace hS := hS.stp 0 rfl uw3
  refine LW.T (CW.region (LW.M rfl (LW.M rfl (LW.pp (.subN (.t rfl) (.t rfl) oQ oQ) (LW.A rfl (LW.nil (KW.inBlock (KW.round ?_))))))))
  exact ⟨(i, j - i, swR ys (mm - i) (mm + j - i) i), ⟨⟨by show 0 < i; omega, by show 0 < j - i; omega, by show i ≤ mm - a; omega, by show j - i ≤ b - mm; omega⟩, by rw [swR_length]; exact hyl, by rw [← hrt]; exact rot_small oQ oQ oQ oQ, hS⟩, ⟨rfl, rfl, rfl, rfl, rfl, trivial⟩, by (dsimp only; omega)⟩
 replace h20 := dQ h20
 have heq0 : ((i : Int) = j) := by simpa using h20
 have heq : i = j := by omega
 subst heq
 refine CW.exit (KW.then_exit (KW.then_exit (KW.block_hit (KW.then (CW.region (LW.M rfl (LW.M rfl (LW.M rfl (LW.pp (.subN (.t rfl) (.t rfl) oQ oQ) (LW.M rfl (LW.M rfl (LW.M rfl (LW.K (eC (.cons (.t rfl) (.cons (.t rfl) (.cons (.t rfl) (.cons (.t rfl) (.cons (.t rfl) .nil))))) (en244)) rfl (swapRange_any (mm - i) mm i _ g m cp ys _ (hS.own 0 rfl) h63 oQ oQ) ?_)))))))))))))
 rintro _ w4 ⟨rfl, uw4⟩
 replace hS := hS.stp 0 rfl uw4
 refine LW.nil (KW.end0 rfl ⟨_, rfl, ?_⟩)
 rw [rot_half oQ oQ, hrt] at hS
 exact ⟨rfl, ⟨hS.fr, hS.get 0 rfl, fun _ h => .inl h⟩⟩
theorem insertion_any (a b : Nat) (cf : Nat) (lb : Array Go.Value) (key : Fact → K2) (hen : ∀ args w, (callFunc cf args).run prog w = .ok (.enter cf args) w) (g m cp : Nat) (xs : List Fact) (w : World) (ho : OwnS w 0 24 19 Fact.cells (.slice (some ⟨g, 0, none⟩) m cp) xs) (h63 : m ≤ 1000000000) (hcmp : ∀ W, Fr (aOwn 24 19 Fact.cells (.slice (some ⟨g, 0, none⟩) m cp) (xs)).foot w W → ∀ x y, Ret prog cf (#[.agg (Fact.cells x), .agg (Fact.cells y)] ++ lb) W fun r W' => r = vi (cmpK (key x) (key y)) ∧ Up W W') (h1 : a ≤ b) (h2 : b ≤ m) : Ret prog 238 #[.slice (some ⟨g, 0, none⟩) m cp, vi (a : Int), vi (b : Int), .func (.func cf) #[] lb] w fun r w' => r = .tuple #[] ∧ ∃ zs, StS key (seg xs a b) zs ∧ Stp (aOwn 24 19 Fact.cells (.slice (some ⟨g, 0, none⟩) m cp) (xs)) (aOwn 24 19 Fact.cells (.slice (some ⟨g, 0, none⟩) m cp) (rep xs a b zs)) w w' := by
 obtain ⟨w0, rfl⟩ : ∃ w0, w0 = w := ⟨_, rfl⟩
 have hxl := ho.len
 have hS : Wx.Sep (aOwn 24 19 Fact.cells (.slice (some ⟨g, 0, none⟩) m cp) (xs)).foot w0 w0 [aOwn 24 19 Fact.cells (.slice (some ⟨g, 0, none⟩) m cp) (xs)] := Sep.cons ho (fun _ h => h) (Sep.start _ _) (by simp)
 refine cS (n := 53) (m := 9) func238 rfl rfl rfl (CW.S (LW.M rfl (LW.pp (.inc (.t rfl) oQ) (LW.A rfl (LW.T (CW.block (CW.loopB (σ := Nat × List Fact) (fun s w => (a + 1 ≤ s.1 ∧ (s.1 ≤ b ∨ s.1 = a + 1)) ∧ (StS key (seg xs a (min s.1 b)) s.2) ∧ (Wx.Sep (aOwn 24 19 Fact.cells (.slice (some ⟨g, 0, none⟩) m cp) (xs)).foot w0 w [aOwn 24 19 Fact.cells (.slice (some ⟨g, 0, none⟩) m cp) (rep xs a (min s.1 b) s.2)])) (fun s => [(8, .eq (vi (s.1 : Int)))]) ([(0, .eq _), (1, .eq _), (2, .eq _), (3, .eq _)]) (fun s => b - s.1) (a + 1, seg xs a (min (a + 1) b)) ?_ ⟨rfl, rfl, rfl, rfl, rfl, trivial⟩ ?_)))))))
 ·exact ⟨⟨Nat.le_refl _, .inr rfl⟩, StS.refl (srt_one (by rw [seg_length (by omega)]; omega)), by rw [rep_same oQ (by omega)]; exact hS⟩
 rintro ⟨i, zs⟩ w1 ⟨hi, hz, hS⟩
 dsimp only at hi hz hS
 change CW _ _ _ _ _ _ _ ([(8, .eq (vi (i : Int)))] ++ _) _
 refine CW.seq (CW.S (LW.M rfl (LW.M rfl (LW.pp (.lss (.t rfl) (.t rfl)) (LW.T (CW.cond (.t rfl) (fun h14 => ?_) (fun h14 => ?_)))))))
 ·refine CW.skip (KW.then (CW.seq (CW.block (CW.seq ?_))))
  have hib : i < b := by simp at h14; omega
  rw [Nat.min_eq_left (by omega)] at hz hS
  have hzl : zs.length = i - a := by rw [hz.same.length, seg_length (by omega)]
  obtain ⟨x, hx⟩ := getElem?_of_lt (xs := xs) (i := i) oQ
  refine CW.region (LW.M rfl (LW.A rfl (LW.T (CW.block (CW.loopB (σ := Nat) (fun s w => (a ≤ s ∧ s ≤ i) ∧ (∀ y ∈ zs.drop (s - a), ltK (key x) (key y) = true) ∧ (Wx.Sep (aOwn 24 19 Fact.cells (.slice (some ⟨g, 0, none⟩) m cp) (xs)).foot w0 w [aOwn 24 19 Fact.cells (.slice (some ⟨g, 0, none⟩) m cp) (rep xs a (i + 1) (insAt zs x (s - a)))])) (fun s => [(9, .eq (vi (s : Int)))]) ([(0, .eq _), (1, .eq _), (2, .eq _), (3, .eq _), (8, .eq _)]) (fun s => s) i ?_ ⟨rfl, rfl, rfl, rfl, rfl, rfl, trivial⟩ ?_)))))
  ·exact ⟨⟨by omega, Nat.le_refl _⟩, by rw [List.drop_eq_nil_of_le (by omega)]; simp, by rw [← hzl, insAt_end, rep_snoc oQ hx hzl]; exact hS⟩
  rintro j w2 ⟨hj, hgt, hS⟩
  refine CW.seq (CW.seq ?_)
  skip
  cases hq4 : decide (a < j) with
  | true =>
   have haj := of_decide_eq_true hq4
   obtain ⟨y, hy⟩ := getElem?_of_lt (xs := zs) (i := j - a - 1) oQ
   have hjx : (rep xs a (i + 1) (insAt zs x (j - a)))[j]? = some x := by have := ins_x (xs := xs) (a := a) (b := i + 1) (zs := zs) (x := x) (p := j - a) oQ oQ oQ (by omega); rwa [show a + (j - a) = j by omega] at this
   have hjy : (rep xs a (i + 1) (insAt zs x (j - a)))[j - 1]? = some y := by have := ins_before (xs := xs) (a := a) (b := i + 1) (zs := zs) (x := x) (p := j - a) (q := j - a - 1) oQ oQ oQ oQ (by omega); rw [show a + (j - a - 1) = j - 1 by omega] at this; exact this.trans hy
   refine CW.draws kQ kQ rfl rfl (HW.pp (.move (.t rfl)) (HW.pp (.move (.t rfl)) (HW.pp (.tr (PEv.gtr (.t rfl) (.t rfl)) (decide_eq_true oQ)) (HW.pp (.move (.t rfl)) (HW.yy (.move (.t rfl)) (HW.yy (.move (.t rfl)) (HW.yy (.move (.t rfl)) (HW.yy (.indexAddr underlying26 sizeOf24 (.t rfl) (.t rfl) oQ) (HW.yy (.la isAgg24 sizeOf24 rfl ((hS.own 0 rfl).at (fun _ => rfl) hjx)) (HW.yy (.move (.t rfl)) (HW.yy (.move (.t rfl)) (HW.yy (.dec (.t rfl) oQ oQ) (HW.yy (.indexAddr underlying26 sizeOf24 (.t rfl) (.t rfl) oQ) (HW.yy (.la isAgg24 sizeOf24 rfl ((hS.own 0 rfl).at (fun _ => rfl) hjy)) (HW.yc rfl rfl rfl rfl rfl (fun a w _ ha => enter_call (.t rfl) (.cons (.t rfl) (.cons (.t rfl) .nil)) (hen) a ha) rfl (fun w hu => hcmp w (hS.fr.trans (hu.fr _)) x y) (HW.yy (.lss (.t rfl) (.const _)) (HW.pp (.pick_and (.t rfl) (fun hp => (by exact .tmp rfl))) (HW.nil ?_))))))))))))))))))
   intro w3 uw3
   replace hS := hS.up uw3
   refine KW.then (CW.cond (.t rfl) (fun h34 => ?_) (fun h34 => ?_))
   ·refine CW.skip (KW.then (CW.seq (CW.block (CW.stores2 15 17 [.slice (some ⟨g, 0, none⟩) m cp, vi ((j : Nat) : Int), .slice (some ⟨g, 0, none⟩) m cp, vi ((j : Nat) : Int), vi ((j - 1 : Nat) : Int), .slice (some ⟨g, 0, none⟩) m cp, vi ((j : Nat) : Int), vi ((j - 1 : Nat) : Int), .pointer (some ⟨g, 0 + (j - 1) * 19, none⟩), .agg (Fact.cells y), .slice (some ⟨g, 0, none⟩) m cp, vi ((j : Nat) : Int), .pointer (some ⟨g, 0 + (j) * 19, none⟩), .agg (Fact.cells x), .pointer (some ⟨g, 0 + (j) * 19, none⟩), undef, .pointer (some ⟨g, 0 + (j - 1) * 19, none⟩), undef] (fun W => Wx.Sep (aOwn 24 19 Fact.cells (.slice (some ⟨g, 0, none⟩) m cp) (xs)).foot w0 W [aOwn 24 19 Fact.cells (.slice (some ⟨g, 0, none⟩) m cp) (rep xs a (i + 1) (insAt zs x (j - a)))]) (fun W => Wx.Sep (aOwn 24 19 Fact.cells (.slice (some ⟨g, 0, none⟩) m cp) (xs)).foot w0 W [aOwn 24 19 Fact.cells (.slice (some ⟨g, 0, none⟩) m cp) ((rep xs a (i + 1) (insAt zs x (j - a))).set (j) y)]) (fun W => Wx.Sep (aOwn 24 19 Fact.cells (.slice (some ⟨g, 0, none⟩) m cp) (xs)).foot w0 W [aOwn 24 19 Fact.cells (.slice (some ⟨g, 0, none⟩) m cp) (((rep xs a (i + 1) (insAt zs x (j - a))).set (j) y).set (j - 1) x)]) kQ rfl kQ kQ kQ kQ kQ kQ (hS.up (Up.drew _)) ?_ _ _ rfl rfl ⟨rfl, rfl⟩ ⟨rfl, rfl⟩ ?_ ?_ ?_))))
    ·refine aC (.inr ⟨rfl, .inr fun W => PEv.move (.t rfl)⟩) (aC (.inr ⟨rfl, .inr fun W => PEv.move (.t rfl)⟩) (aC (.inr ⟨rfl, .inr fun W => PEv.move (.t rfl)⟩) (aC (.inr ⟨rfl, .inr fun W => PEv.move (.t rfl)⟩) (aC (.inr ⟨rfl, .inr fun W => PEv.dec (.t rfl) oQ oQ⟩) (aC (.inr ⟨rfl, .inr fun W => PEv.move (.t rfl)⟩) (aC (.inr ⟨rfl, .inr fun W => PEv.move (.t rfl)⟩) (aC (.inr ⟨rfl, .inr fun W => PEv.dec (.t rfl) oQ oQ⟩) (aC (.inr ⟨rfl, .inr fun W => PEv.indexAddr underlying26 sizeOf24 (.t rfl) (.t rfl) oQ⟩) (aC (.inr ⟨rfl, .inl ⟨by kernel_rfl, fun W hS => PEv.la isAgg24 sizeOf24 rfl ((hS.own 0 rfl).at (fun _ => rfl) hjy)⟩⟩) (aC (.inr ⟨rfl, .inr fun W => PEv.move (.t rfl)⟩) (aC (.inr ⟨rfl, .inr fun W => PEv.move (.t rfl)⟩) (aC (.inr ⟨rfl, .inr fun W => PEv.indexAddr underlying26 sizeOf24 (.t rfl) (.t rfl) oQ⟩) (aC (.inr ⟨rfl, .inl ⟨by kernel_rfl, fun W hS => PEv.la isAgg24 sizeOf24 rfl ((hS.own 0 rfl).at (fun _ => rfl) hjx)⟩⟩) (aC (.inr ⟨rfl, .inr fun W => PEv.indexAddr underlying26 sizeOf24 (.t rfl) (.t rfl) oQ⟩) (aC (.inl (by simp)) (aC (.inr ⟨rfl, .inr fun W => PEv.indexAddr underlying26 sizeOf24 (.t rfl) (.t rfl) oQ⟩) (aC (.inl (by simp)) ?_)))))))))))))))))
     exact allL.nil
    ·intro W hS
     exact SEv.mono (SEv.storeOwnA (i := j) (z := y) sizeOf24 (fun _ => rfl) Fact.one (.t rfl) (.t rfl) (hS.own 0 rfl) oQ) (fun _ h => hS.stp 0 rfl h)
    ·intro W hS
     exact SEv.mono (SEv.storeOwnA (i := j - 1) (z := x) sizeOf24 (fun _ => rfl) Fact.one (.t rfl) (.t rfl) (hS.own 0 rfl) oQ) (fun _ h => hS.stp 0 rfl h)
    intro w4 hS
    have hS : Wx.Sep (aOwn 24 19 Fact.cells (.slice (some ⟨g, 0, none⟩) m cp) (xs)).foot w0 w4 [aOwn 24 19 Fact.cells (.slice (some ⟨g, 0, none⟩) m cp) (((rep xs a (i + 1) (insAt zs x (j - a))).set (j) y).set (j - 1) x)] := hS
    refine KW.inBlock (KW.then (CW.region (LW.M rfl (LW.pp (.dec (.t rfl) oQ oQ) (LW.A rfl (LW.nil (KW.round ?_)))))))
    exact ⟨j - 1, ⟨⟨by omega, by omega⟩, by rw [show j - 1 - a = j - a - 1 by omega]; exact drop_pred oQ hy hgt (by rw [← cmpK_neg]; simpa using h34), by have := ins_down (xs := xs) (a := a) (b := i + 1) (x := x) (p := j - a - 1) (y := y) oQ oQ oQ oQ hy; rw [show j - a - 1 + 1 = j - a by omega, show a + (j - a) = j by omega, show a + (j - a - 1) = j - 1 by omega] at this; rw [show j - 1 - a = j - a - 1 by omega, ← this]; exact hS⟩, ⟨rfl, rfl, rfl, rfl, rfl, rfl, trivial⟩, by omega⟩
   refine CW.exit (KW.then_exit (KW.then_exit (KW.block_hit (KW.inBlock (KW.then (CW.region (LW.M rfl (LW.pp (.inc (.t rfl) oQ) (LW.A rfl (LW.nil (KW.round ?_)))))))))))
   exact ⟨(i + 1, insAt zs x (j - a)), ⟨⟨by omega, by omega⟩, by rw [Nat.min_eq_left oQ, seg_snoc oQ hx]; exact hz.snoc oQ hgt (.inr ⟨y, hy, by rw [← cmpK_neg]; simpa using h34⟩), by rw [Nat.min_eq_left (by omega)]; exact hS⟩, ⟨rfl, rfl, rfl, rfl, rfl, trivial⟩, by omega⟩
  | false =>
   refine CW.draws kQ kQ rfl rfl (HW.pp (.move (.t rfl)) (HW.pp (.move (.t rfl)) (HW.pp (.fa (PEv.gtr (.t rfl) (.t rfl)) (decide_eq_false (by have := of_decide_eq_false hq4; omega))) (HW.pp (.move (.t rfl)) (HW.N (HW.N (HW.N (HW.N (HW.N (HW.N (HW.N (HW.N (HW.N (HW.N (HW.N (HW.N (HW.pp (.pick_and (b := false) (.t rfl) (fun hp => absurd (show false = true from hp) cQ)) (HW.nil ?_))))))))))))))))))
   intro w5 uw5
   replace hS := hS.up uw5
   refine KW.then (CW.cond_false (.t rfl) (CW.exit (KW.then_exit (KW.then_exit (KW.block_hit (KW.inBlock (KW.then (CW.region (LW.M rfl (LW.pp (.inc (.t rfl) oQ) (LW.A rfl (LW.nil (KW.round ?_)))))))))))))
   exact ⟨(i + 1, insAt zs x (j - a)), ⟨⟨by omega, by omega⟩, by rw [Nat.min_eq_left oQ, seg_snoc oQ hx]; exact hz.snoc oQ hgt (.inl (by have := of_decide_eq_false hq4; omega)), by rw [Nat.min_eq_left (by omega)]; exact hS⟩, ⟨rfl, rfl, rfl, rfl, rfl, trivial⟩, by omega⟩
 refine CW.exit (KW.then_exit (KW.then_exit (KW.block_hit (KW.end0 rfl ⟨_, rfl, ?_⟩))))
 have hbi : min i b = b := by simp at h14; omega
 rw [hbi] at hz hS
 exact ⟨rfl, zs, hz, ⟨hS.fr, hS.get 0 rfl, fun _ h => .inl h⟩⟩
end Go.Proofs.YtbbpkdlehlamlaaGreatDoor
namespace Go.Wx
theorem and_yes {p q r t : Nat} (h : (decide ((p : Int) < (q : Int)) && decide ((r : Int) < (t : Int))) = true) : p < q ∧ r < t := by
 obtain ⟨h1, h2⟩ := Bool.and_eq_true_iff.1 h
 have h1 := of_decide_eq_true h1
 have h2 := of_decide_eq_true h2
 omega
theorem and_no {p q r t : Nat} (h : (decide ((p : Int) < (q : Int)) && decide ((r : Int) < (t : Int))) = false) : ¬ (p < q ∧ r < t) := fun ⟨h1, h2⟩ => by
 rw [decide_eq_true oQ, decide_eq_true (by omega)] at h
 cases h
theorem seg_cons {α : Type} {xs : List α} {a b : Nat} {x : α} (hx : xs[a]? = some x) (h : a < b) (hb : b ≤ xs.length) : seg xs a b = x :: seg xs (a + 1) b := by
 rw [seg_split (m := a + 1) oQ oQ hb, seg_snoc (Nat.le_refl a) hx, seg_nil (Nat.le_refl a)]; rfl
theorem u64_nat {z : Nat} (h : z < 18446744073709551616) : Go.Value.int .u64 (IntKind.u64.wrap (z : Int)) = vu z := by
 rw [u64_wrap]
 unfold vu
 congr 1
 omega
theorem i64_nat {z : Nat} (h : z < 9223372036854775808) : Go.Value.int .i64 (IntKind.i64.wrap (z : Int)) = vi (z : Int) := by
 rw [wrap_i64_in oQ (by omega)]
theorem shr1_nat {z : Nat} : Go.Value.int .u64 ((z : Int).fdiv (2 ^ (min 1 IntKind.u64.bits))) = vu (z / 2) := by
 have e1 : min 1 IntKind.u64.bits = 1 := rfl
 rw [e1, Int.fdiv_eq_ediv_of_nonneg _ (by decide)]
 unfold vu
 congr 1
end Go.Wx
namespace Go.Proofs.YtbbpkdlehlamlaaGreatDoor
open Go.Proofs.Tryz
open Go.Wx Go.RowKit
set_option maxHeartbeats 8000000 in
theorem symMerge_any (cf : Nat) (lb : Array Go.Value) (key : Fact → K2) (hen : ∀ args w, (callFunc cf args).run prog w = .ok (.enter cf args) w) (g m cp : Nat) (h63 : m ≤ 1000000000) : ∀ (N a mm b : Nat) (xs : List Fact) (w : World), b - a ≤ N → OwnS w 0 24 19 Fact.cells (.slice (some ⟨g, 0, none⟩) m cp) xs → (∀ W, Fr (aOwn 24 19 Fact.cells (.slice (some ⟨g, 0, none⟩) m cp) (xs)).foot w W → ∀ x y, Ret prog cf (#[.agg (Fact.cells x), .agg (Fact.cells y)] ++ lb) W fun r W' => r = vi (cmpK (key x) (key y)) ∧ Up W W') → a < mm → mm < b → b ≤ m → srt key (seg xs a mm) → srt key (seg xs mm b) →
   Ret prog 239 #[.slice (some ⟨g, 0, none⟩) m cp, vi (a : Int), vi (mm : Int), vi (b : Int), .func (.func cf) #[] lb] w fun r w' => r = .tuple #[] ∧ ∃ zs, StS key (seg xs a b) zs ∧ Stp (aOwn 24 19 Fact.cells (.slice (some ⟨g, 0, none⟩) m cp) (xs)) (aOwn 24 19 Fact.cells (.slice (some ⟨g, 0, none⟩) m cp) (rep xs a b zs)) w w' := by
 intro N
 induction N with
 | zero => intro a mm b xs w hN _ _ h1 h2; omega
 | succ N ih =>
 intro a mm b xs w hN ho hcmp h1 h2 h3 hsA hsB
 obtain ⟨w0, rfl⟩ : ∃ w0, w0 = w := ⟨_, rfl⟩
 have hxl := ho.len
 have hS : Wx.Sep (aOwn 24 19 Fact.cells (.slice (some ⟨g, 0, none⟩) m cp) (xs)).foot w0 w0 [aOwn 24 19 Fact.cells (.slice (some ⟨g, 0, none⟩) m cp) (xs)] := Sep.cons ho (fun _ h => h) (Sep.start _ _) (by simp)
 refine cS (n := 220) (m := 9) func239 rfl rfl rfl (CW.seq (CW.seq ?_))
 cases hq0 : decide (mm - a = 1) with
 | true =>
  have hq0 := of_decide_eq_true hq0
  obtain rfl : mm = a + 1 := by omega
  obtain ⟨x, hx⟩ := getElem?_of_lt (xs := xs) (i := a) oQ
  refine CW.region (LW.M rfl (LW.M rfl (LW.pp (.subN (.t rfl) (.t rfl) oQ oQ) (LW.pp (.tr (PEv.eql (.t rfl) (.const _)) (decide_eq_true oQ)) (LW.T (CW.cond_true (.t rfl) (CW.S (LW.M rfl (LW.A rfl (LW.S (CW.region (LW.M rfl (LW.A rfl (LW.S (CW.block (CW.loopB (σ := Nat × Nat) (fun s w => (a + 1 ≤ s.1 ∧ s.1 ≤ s.2 ∧ s.2 ≤ b) ∧ (∀ q y, a + 1 ≤ q → q < s.1 → xs[q]? = some y → ltK (key y) (key x) = true) ∧ (∀ q y, s.2 ≤ q → q < b → xs[q]? = some y → ltK (key y) (key x) = false) ∧ (Wx.Sep (aOwn 24 19 Fact.cells (.slice (some ⟨g, 0, none⟩) m cp) (xs)).foot w0 w [aOwn 24 19 Fact.cells (.slice (some ⟨g, 0, none⟩) m cp) (xs)])) (fun s => [(10, .eq (vi (s.1 : Int))), (11, .eq (vi (s.2 : Int)))]) ([(0, .eq _), (1, .eq _), (2, .eq _), (3, .eq _), (4, .eq _)]) (fun s => s.2 - s.1) (a + 1, b) ?_ ⟨rfl, rfl, rfl, rfl, rfl, rfl, rfl, trivial⟩ ?_))))))))))))))))
  ·exact ⟨⟨Nat.le_refl _, by show a + 1 ≤ b; omega, Nat.le_refl _⟩, fun q y h1 h2 => absurd (show q < a + 1 from h2) oQ, fun q y h1 h2 => absurd (show b ≤ q from h1) oQ, hS⟩
  rintro ⟨i, j⟩ w1 ⟨hij, hL, hR, hS⟩
  dsimp only at hij hL hR hS
  change CW _ _ _ _ _ _ _ ([(10, .eq (vi (i : Int))), (11, .eq (vi (j : Int)))] ++ _) _
  refine CW.seq (CW.S (LW.M rfl (LW.M rfl (LW.pp (.lss (.t rfl) (.t rfl)) (LW.T (CW.cond (.t rfl) (fun h33 => ?_) (fun h33 => ?_)))))))
  ·replace h33 := dQ h33
   refine CW.skip (KW.then (CW.block (CW.S (LW.M rfl (LW.M rfl (LW.pp (.addN (.t rfl) (.t rfl) oQ) (LW.pp (.val (v' := vu (i + j)) (PEv.conv (k' := .u64) (by rw [underlying3]; rfl) underlying176 (.t rfl)) (u64_nat oQ)) (LW.pp (.val (v' := vu ((i + j) / 2)) (PEv.shr_w (j := 1) (.t rfl) (.const _)) shr1_nat) (LW.pp (.val (v' := vi (((i + j) / 2 : Nat) : Int)) (PEv.conv (k' := .i64) (by rw [underlying176]; rfl) underlying3 (.t rfl)) (i64_nat oQ)) (LW.A rfl (LW.S ?_)))))))))))
   have hlt : i < j := by simp at h33; omega
   obtain ⟨y, hy⟩ := getElem?_of_lt (xs := xs) (i := (i + j) / 2) oQ
   refine CW.draws kQ kQ rfl rfl (HW.pp (.move (.t rfl)) (HW.pp (.move (.t rfl)) (HW.pp (.move (.t rfl)) (HW.pp (.indexAddr underlying26 sizeOf24 (.t rfl) (.t rfl) oQ) (HW.pp (.la isAgg24 sizeOf24 rfl ((hS.own 0 rfl).at (fun _ => rfl) hy)) (HW.pp (.move (.t rfl)) (HW.pp (.move (.t rfl)) (HW.pp (.indexAddr underlying26 sizeOf24 (.t rfl) (.t rfl) oQ) (HW.pp (.la isAgg24 sizeOf24 rfl ((hS.own 0 rfl).at (fun _ => rfl) hx)) (HW.c (fun a w _ ha => enter_call (.t rfl) (.cons (.t rfl) (.cons (.t rfl) .nil)) (hen) a ha) rfl rfl (fun w hu => hcmp w (hS.fr.trans (hu.fr _)) y x) (HW.pp (.lss (.t rfl) (.const _)) (HW.nil ?_))))))))))))
   intro w2 uw2
   replace hS := hS.up uw2
   refine KW.then (CW.cond (.t rfl) (fun h50 => ?_) (fun h50 => ?_))
   ·replace h50 := dQ h50
    refine CW.region (LW.M rfl (LW.pp (.inc (.t rfl) oQ) (LW.A rfl (LW.nil (KW.inBlock (KW.round ?_))))))
    exact ⟨((i + j) / 2 + 1, j), ⟨⟨by show a + 1 ≤ (i + j) / 2 + 1; omega, by show (i + j) / 2 + 1 ≤ j; omega, by show j ≤ b; omega⟩, fun q z q1 q2 hz => le_lt_K (srt_get hsB q1 (show q ≤ (i + j) / 2 from Nat.le_of_lt_succ q2) oQ hz hy) (by rw [← cmpK_neg]; exact decide_eq_true h50), hR, hS⟩, ⟨rfl, rfl, rfl, rfl, rfl, rfl, rfl, trivial⟩, by omega⟩
   replace h50 := dQ h50
   refine CW.region (LW.M rfl (LW.A rfl (LW.nil (KW.inBlock (KW.round ?_)))))
   exact ⟨(i, (i + j) / 2), ⟨⟨by show a + 1 ≤ i; omega, by show i ≤ (i + j) / 2; omega, by show (i + j) / 2 ≤ b; omega⟩, hL, fun q z q1 q2 hz => leK_trans (by rw [← cmpK_neg]; exact decide_eq_false h50) (srt_get hsB oQ (show (i + j) / 2 ≤ q from q1) q2 hy hz), hS⟩, ⟨rfl, rfl, rfl, rfl, rfl, rfl, rfl, trivial⟩, by omega⟩
  replace h33 := dQ h33
  refine CW.exit (KW.then_exit (KW.then_exit (KW.block_hit (KW.then (CW.seq (CW.seq ?_))))))
  have hij2 : i = j := by simp at h33; omega
  have hzl : (seg xs (a + 1) b).length = b - (a + 1) := seg_length oQ
  have hsx : x :: seg xs (a + 1) b = seg xs a b := (seg_cons hx oQ oQ).symm
  refine CW.region (LW.M rfl (LW.A rfl (LW.T (CW.block (CW.loopB (σ := Nat) (fun s w => (a ≤ s ∧ s ≤ i - 1) ∧ (Wx.Sep (aOwn 24 19 Fact.cells (.slice (some ⟨g, 0, none⟩) m cp) (xs)).foot w0 w [aOwn 24 19 Fact.cells (.slice (some ⟨g, 0, none⟩) m cp) (rep xs a b (insAt (seg xs (a + 1) b) x (s - a)))])) (fun s => [(13, .eq (vi (s : Int)))]) ([(0, .eq _), (1, .eq _), (2, .eq _), (3, .eq _), (4, .eq _), (10, .eq _)]) (fun s => i - s) a ?_ ⟨rfl, rfl, rfl, rfl, rfl, rfl, rfl, trivial⟩ ?_)))))
  ·exact ⟨⟨Nat.le_refl _, by omega⟩, by rw [Nat.sub_self, insAt_start, hsx, rep_same oQ (by omega)]; exact hS⟩
  rintro k w3 ⟨hk, hS⟩
  refine CW.seq (CW.S (LW.M rfl (LW.M rfl (LW.pp (.dec (.t rfl) oQ oQ) (LW.pp (.lss (.t rfl) (.t rfl)) (LW.T (CW.cond (.t rfl) (fun h58 => ?_) (fun h58 => ?_))))))))
  ·replace h58 := dQ h58
   refine CW.skip (KW.then (CW.seq (CW.block ?_)))
   have hki : k < i - 1 := by simp at h58; omega
   obtain ⟨y, hy⟩ := getElem?_of_lt (xs := seg xs (a + 1) b) (i := k - a) oQ
   have hrl : (rep xs a b (insAt (seg xs (a + 1) b) x (k - a))).length = m := by rw [rep_length oQ oQ (by rw [insAt_length]; omega)]; exact hxl
   have hkx : (rep xs a b (insAt (seg xs (a + 1) b) x (k - a)))[k]? = some x := by have := ins_x (xs := xs) (a := a) (b := b) (zs := seg xs (a + 1) b) (x := x) (p := k - a) oQ oQ oQ (by omega); rwa [show a + (k - a) = k by omega] at this
   have hky : (rep xs a b (insAt (seg xs (a + 1) b) x (k - a)))[k + 1]? = some y := by have := ins_behind (xs := xs) (a := a) (b := b) (zs := seg xs (a + 1) b) (x := x) (p := k - a) (q := k - a + 1) oQ oQ oQ oQ (by omega); rw [show a + (k - a + 1) = k + 1 by omega] at this; exact this.trans hy
   refine CW.stores2 15 17 [.slice (some ⟨g, 0, none⟩) m cp, vi ((k : Nat) : Int), .slice (some ⟨g, 0, none⟩) m cp, vi ((k : Nat) : Int), vi ((k + 1 : Nat) : Int), .slice (some ⟨g, 0, none⟩) m cp, vi ((k : Nat) : Int), vi ((k + 1 : Nat) : Int), .pointer (some ⟨g, 0 + (k + 1) * 19, none⟩), .agg (Fact.cells y), .slice (some ⟨g, 0, none⟩) m cp, vi ((k : Nat) : Int), .pointer (some ⟨g, 0 + (k) * 19, none⟩), .agg (Fact.cells x), .pointer (some ⟨g, 0 + (k) * 19, none⟩), undef, .pointer (some ⟨g, 0 + (k + 1) * 19, none⟩), undef] (fun W => Wx.Sep (aOwn 24 19 Fact.cells (.slice (some ⟨g, 0, none⟩) m cp) (xs)).foot w0 W [aOwn 24 19 Fact.cells (.slice (some ⟨g, 0, none⟩) m cp) (rep xs a b (insAt (seg xs (a + 1) b) x (k - a)))]) (fun W => Wx.Sep (aOwn 24 19 Fact.cells (.slice (some ⟨g, 0, none⟩) m cp) (xs)).foot w0 W [aOwn 24 19 Fact.cells (.slice (some ⟨g, 0, none⟩) m cp) ((rep xs a b (insAt (seg xs (a + 1) b) x (k - a))).set (k) y)]) (fun W => Wx.Sep (aOwn 24 19 Fact.cells (.slice (some ⟨g, 0, none⟩) m cp) (xs)).foot w0 W [aOwn 24 19 Fact.cells (.slice (some ⟨g, 0, none⟩) m cp) (((rep xs a b (insAt (seg xs (a + 1) b) x (k - a))).set (k) y).set (k + 1) x)]) kQ rfl kQ kQ kQ kQ kQ kQ (hS.up (Up.drew _)) ?_ _ _ rfl rfl ⟨rfl, rfl⟩ ⟨rfl, rfl⟩ ?_ ?_ ?_
   ·refine aC (.inr ⟨rfl, .inr fun W => PEv.move (.t rfl)⟩) (aC (.inr ⟨rfl, .inr fun W => PEv.move (.t rfl)⟩) (aC (.inr ⟨rfl, .inr fun W => PEv.move (.t rfl)⟩) (aC (.inr ⟨rfl, .inr fun W => PEv.move (.t rfl)⟩) (aC (.inr ⟨rfl, .inr fun W => PEv.inc (.t rfl) oQ⟩) (aC (.inr ⟨rfl, .inr fun W => PEv.move (.t rfl)⟩) (aC (.inr ⟨rfl, .inr fun W => PEv.move (.t rfl)⟩) (aC (.inr ⟨rfl, .inr fun W => PEv.inc (.t rfl) oQ⟩) (aC (.inr ⟨rfl, .inr fun W => PEv.indexAddr underlying26 sizeOf24 (.t rfl) (.t rfl) oQ⟩) (aC (.inr ⟨rfl, .inl ⟨by kernel_rfl, fun W hS => PEv.la isAgg24 sizeOf24 rfl ((hS.own 0 rfl).at (fun _ => rfl) hky)⟩⟩) (aC (.inr ⟨rfl, .inr fun W => PEv.move (.t rfl)⟩) (aC (.inr ⟨rfl, .inr fun W => PEv.move (.t rfl)⟩) (aC (.inr ⟨rfl, .inr fun W => PEv.indexAddr underlying26 sizeOf24 (.t rfl) (.t rfl) oQ⟩) (aC (.inr ⟨rfl, .inl ⟨by kernel_rfl, fun W hS => PEv.la isAgg24 sizeOf24 rfl ((hS.own 0 rfl).at (fun _ => rfl) hkx)⟩⟩) (aC (.inr ⟨rfl, .inr fun W => PEv.indexAddr underlying26 sizeOf24 (.t rfl) (.t rfl) oQ⟩) (aC (.inl (by simp)) (aC (.inr ⟨rfl, .inr fun W => PEv.indexAddr underlying26 sizeOf24 (.t rfl) (.t rfl) oQ⟩) (aC (.inl (by simp)) ?_)))))))))))))))))
    exact allL.nil
   ·intro W hS
    exact SEv.mono (SEv.storeOwnA (i := k) (z := y) sizeOf24 (fun _ => rfl) Fact.one (.t rfl) (.t rfl) (hS.own 0 rfl) oQ) (fun _ h => hS.stp 0 rfl h)
   ·intro W hS
    exact SEv.mono (SEv.storeOwnA (i := k + 1) (z := x) sizeOf24 (fun _ => rfl) Fact.one (.t rfl) (.t rfl) (hS.own 0 rfl) oQ) (fun _ h => hS.stp 0 rfl h)
   intro w4 hS
   have hS : Wx.Sep (aOwn 24 19 Fact.cells (.slice (some ⟨g, 0, none⟩) m cp) (xs)).foot w0 w4 [aOwn 24 19 Fact.cells (.slice (some ⟨g, 0, none⟩) m cp) (((rep xs a b (insAt (seg xs (a + 1) b) x (k - a))).set (k) y).set (k + 1) x)] := hS
   refine KW.inBlock (KW.then (CW.region (LW.M rfl (LW.pp (.inc (.t rfl) oQ) (LW.A rfl (LW.nil (KW.round ?_)))))))
   exact ⟨k + 1, ⟨⟨by omega, by omega⟩, by have := ins_up (xs := xs) (a := a) (b := b) (x := x) (p := k - a) (y := y) oQ oQ oQ oQ hy; rw [show a + (k - a) = k by omega, show a + (k - a + 1) = k + 1 by omega] at this; rw [show k + 1 - a = k - a + 1 by omega, ← this]; exact hS⟩, ⟨rfl, rfl, rfl, rfl, rfl, rfl, rfl, trivial⟩, by omega⟩
  replace h58 := dQ h58
  refine CW.exit (KW.then_exit (KW.then_exit (KW.block_hit (KW.then (CW.ret (KW.then_ret (KW.ret0 rfl ⟨_, rfl, ?_⟩)))))))
  have hk2 : k - a = i - (a + 1) := by simp at h58; omega
  rw [hk2] at hS
  exact ⟨rfl, _, sym_one oQ hx oQ oQ hsB hL (by rw [hij2]; exact hR), ⟨hS.fr, hS.get 0 rfl, fun _ h => .inl h⟩⟩
 | false =>
  have hq0 := of_decide_eq_false hq0
  refine CW.region (LW.M rfl (LW.M rfl (LW.pp (.subN (.t rfl) (.t rfl) oQ oQ) (LW.pp (.fa (PEv.eql (.t rfl) (.const _)) (decide_eq_false oQ)) (LW.T (CW.cond_false (.t rfl) (CW.skip (KW.then (CW.seq (CW.seq ?_))))))))))
  cases hq12 : decide (b - mm = 1) with
  | true =>
   have hq12 := of_decide_eq_true hq12
   obtain rfl : b = mm + 1 := by omega
   obtain ⟨x, hx⟩ := getElem?_of_lt (xs := xs) (i := mm) oQ
   refine CW.region (LW.M rfl (LW.M rfl (LW.pp (.subN (.t rfl) (.t rfl) oQ oQ) (LW.pp (.tr (PEv.eql (.t rfl) (.const _)) (decide_eq_true oQ)) (LW.T (CW.cond_true (.t rfl) (CW.S (LW.M rfl (LW.A rfl (LW.S (CW.region (LW.M rfl (LW.A rfl (LW.S (CW.block (CW.loopB (σ := Nat × Nat) (fun s w => (a ≤ s.1 ∧ s.1 ≤ s.2 ∧ s.2 ≤ mm) ∧ (∀ q y, a ≤ q → q < s.1 → xs[q]? = some y → ltK (key x) (key y) = false) ∧ (∀ q y, s.2 ≤ q → q < mm → xs[q]? = some y → ltK (key x) (key y) = true) ∧ (Wx.Sep (aOwn 24 19 Fact.cells (.slice (some ⟨g, 0, none⟩) m cp) (xs)).foot w0 w [aOwn 24 19 Fact.cells (.slice (some ⟨g, 0, none⟩) m cp) (xs)])) (fun s => [(14, .eq (vi (s.1 : Int))), (15, .eq (vi (s.2 : Int)))]) ([(0, .eq _), (1, .eq _), (2, .eq _), (3, .eq _), (4, .eq _)]) (fun s => s.2 - s.1) (a, mm) ?_ ⟨rfl, rfl, rfl, rfl, rfl, rfl, rfl, trivial⟩ ?_))))))))))))))))
   ·exact ⟨⟨Nat.le_refl _, by show a ≤ mm; omega, Nat.le_refl _⟩, fun q y h1 h2 => absurd (show q < a from h2) oQ, fun q y h1 h2 => absurd (show mm ≤ q from h1) oQ, hS⟩
   rintro ⟨i, j⟩ w5 ⟨hij, hL, hR, hS⟩
   dsimp only at hij hL hR hS
   change CW _ _ _ _ _ _ _ ([(14, .eq (vi (i : Int))), (15, .eq (vi (j : Int)))] ++ _) _
   refine CW.seq (CW.S (LW.M rfl (LW.M rfl (LW.pp (.lss (.t rfl) (.t rfl)) (LW.T (CW.cond (.t rfl) (fun h85 => ?_) (fun h85 => ?_)))))))
   ·refine CW.skip (KW.then (CW.block (CW.S (LW.M rfl (LW.M rfl (LW.pp (.addN (.t rfl) (.t rfl) oQ) (LW.pp (.val (v' := vu (i + j)) (PEv.conv (k' := .u64) (by rw [underlying3]; rfl) underlying176 (.t rfl)) (u64_nat oQ)) (LW.pp (.val (v' := vu ((i + j) / 2)) (PEv.shr_w (j := 1) (.t rfl) (.const _)) shr1_nat) (LW.pp (.val (v' := vi (((i + j) / 2 : Nat) : Int)) (PEv.conv (k' := .i64) (by rw [underlying176]; rfl) underlying3 (.t rfl)) (i64_nat oQ)) (LW.A rfl (LW.S ?_)))))))))))
    have hlt : i < j := by simp at h85; omega
    obtain ⟨y, hy⟩ := getElem?_of_lt (xs := xs) (i := (i + j) / 2) oQ
    refine CW.draws kQ kQ rfl rfl (HW.pp (.move (.t rfl)) (HW.pp (.move (.t rfl)) (HW.pp (.move (.t rfl)) (HW.pp (.indexAddr underlying26 sizeOf24 (.t rfl) (.t rfl) oQ) (HW.pp (.la isAgg24 sizeOf24 rfl ((hS.own 0 rfl).at (fun _ => rfl) hx)) (HW.pp (.move (.t rfl)) (HW.pp (.move (.t rfl)) (HW.pp (.indexAddr underlying26 sizeOf24 (.t rfl) (.t rfl) oQ) (HW.pp (.la isAgg24 sizeOf24 rfl ((hS.own 0 rfl).at (fun _ => rfl) hy)) (HW.c (fun a w _ ha => enter_call (.t rfl) (.cons (.t rfl) (.cons (.t rfl) .nil)) (hen) a ha) rfl rfl (fun w hu => hcmp w (hS.fr.trans (hu.fr _)) x y) (HW.pp (.lss (.t rfl) (.const _)) (HW.pp (.not (.t rfl)) (HW.nil ?_)))))))))))))
    intro w6 uw6
    replace hS := hS.up uw6
    refine KW.then (CW.cond (.t rfl) (fun h103 => ?_) (fun h103 => ?_))
    ·refine CW.region (LW.M rfl (LW.pp (.inc (.t rfl) oQ) (LW.A rfl (LW.nil (KW.inBlock (KW.round ?_))))))
     exact ⟨((i + j) / 2 + 1, j), ⟨⟨by show a ≤ (i + j) / 2 + 1; omega, by show (i + j) / 2 + 1 ≤ j; omega, by show j ≤ mm; omega⟩, fun q z q1 q2 hz => leK_trans (srt_get hsA q1 (show q ≤ (i + j) / 2 from Nat.le_of_lt_succ q2) oQ hz hy) (by rw [← cmpK_neg]; simpa using h103), hR, hS⟩, ⟨rfl, rfl, rfl, rfl, rfl, rfl, rfl, trivial⟩, by omega⟩
    refine CW.region (LW.M rfl (LW.A rfl (LW.nil (KW.inBlock (KW.round ?_)))))
    exact ⟨(i, (i + j) / 2), ⟨⟨by show a ≤ i; omega, by show i ≤ (i + j) / 2; omega, by show (i + j) / 2 ≤ mm; omega⟩, hL, fun q z q1 q2 hz => lt_le_K (by rw [← cmpK_neg]; simpa using h103) (srt_get hsA oQ (show (i + j) / 2 ≤ q from q1) q2 hy hz), hS⟩, ⟨rfl, rfl, rfl, rfl, rfl, rfl, rfl, trivial⟩, by omega⟩
   refine CW.exit (KW.then_exit (KW.then_exit (KW.block_hit (KW.then (CW.seq (CW.seq ?_))))))
   have hij2 : i = j := by simp at h85; omega
   have hzl : (seg xs a mm).length = mm - a := seg_length oQ
   refine CW.region (LW.M rfl (LW.A rfl (LW.T (CW.block (CW.loopB (σ := Nat) (fun s w => (i ≤ s ∧ s ≤ mm) ∧ (Wx.Sep (aOwn 24 19 Fact.cells (.slice (some ⟨g, 0, none⟩) m cp) (xs)).foot w0 w [aOwn 24 19 Fact.cells (.slice (some ⟨g, 0, none⟩) m cp) (rep xs a (mm + 1) (insAt (seg xs a mm) x (s - a)))])) (fun s => [(17, .eq (vi (s : Int)))]) ([(0, .eq _), (1, .eq _), (2, .eq _), (3, .eq _), (4, .eq _), (14, .eq _)]) (fun s => s) mm ?_ ⟨rfl, rfl, rfl, rfl, rfl, rfl, rfl, trivial⟩ ?_)))))
   ·exact ⟨⟨by omega, Nat.le_refl _⟩, by rw [← hzl, insAt_end, rep_snoc oQ hx hzl, rep_same oQ (by omega)]; exact hS⟩
   rintro k w7 ⟨hk, hS⟩
   refine CW.seq (CW.S (LW.M rfl (LW.M rfl (LW.pp (.gtr (.t rfl) (.t rfl)) (LW.T (CW.cond (.t rfl) (fun h110 => ?_) (fun h110 => ?_)))))))
   ·refine CW.skip (KW.then (CW.seq (CW.block ?_)))
    have hki : i < k := by simp at h110; omega
    obtain ⟨y, hy⟩ := getElem?_of_lt (xs := seg xs a mm) (i := k - a - 1) oQ
    have hrl : (rep xs a (mm + 1) (insAt (seg xs a mm) x (k - a))).length = m := by rw [rep_length oQ oQ (by rw [insAt_length]; omega)]; exact hxl
    have hkx : (rep xs a (mm + 1) (insAt (seg xs a mm) x (k - a)))[k]? = some x := by have := ins_x (xs := xs) (a := a) (b := mm + 1) (zs := seg xs a mm) (x := x) (p := k - a) oQ oQ oQ (by omega); rwa [show a + (k - a) = k by omega] at this
    have hky : (rep xs a (mm + 1) (insAt (seg xs a mm) x (k - a)))[k - 1]? = some y := by have := ins_before (xs := xs) (a := a) (b := mm + 1) (zs := seg xs a mm) (x := x) (p := k - a) (q := k - a - 1) oQ oQ oQ oQ (by omega); rw [show a + (k - a - 1) = k - 1 by omega] at this; exact this.trans hy
    refine CW.stores2 15 17 [.slice (some ⟨g, 0, none⟩) m cp, vi ((k : Nat) : Int), .slice (some ⟨g, 0, none⟩) m cp, vi ((k : Nat) : Int), vi ((k - 1 : Nat) : Int), .slice (some ⟨g, 0, none⟩) m cp, vi ((k : Nat) : Int), vi ((k - 1 : Nat) : Int), .pointer (some ⟨g, 0 + (k - 1) * 19, none⟩), .agg (Fact.cells y), .slice (some ⟨g, 0, none⟩) m cp, vi ((k : Nat) : Int), .pointer (some ⟨g, 0 + (k) * 19, none⟩), .agg (Fact.cells x), .pointer (some ⟨g, 0 + (k) * 19, none⟩), undef, .pointer (some ⟨g, 0 + (k - 1) * 19, none⟩), undef] (fun W => Wx.Sep (aOwn 24 19 Fact.cells (.slice (some ⟨g, 0, none⟩) m cp) (xs)).foot w0 W [aOwn 24 19 Fact.cells (.slice (some ⟨g, 0, none⟩) m cp) (rep xs a (mm + 1) (insAt (seg xs a mm) x (k - a)))]) (fun W => Wx.Sep (aOwn 24 19 Fact.cells (.slice (some ⟨g, 0, none⟩) m cp) (xs)).foot w0 W [aOwn 24 19 Fact.cells (.slice (some ⟨g, 0, none⟩) m cp) ((rep xs a (mm + 1) (insAt (seg xs a mm) x (k - a))).set (k) y)]) (fun W => Wx.Sep (aOwn 24 19 Fact.cells (.slice (some ⟨g, 0, none⟩) m cp) (xs)).foot w0 W [aOwn 24 19 Fact.cells (.slice (some ⟨g, 0, none⟩) m cp) (((rep xs a (mm + 1) (insAt (seg xs a mm) x (k - a))).set (k) y).set (k - 1) x)]) kQ rfl kQ kQ kQ kQ kQ kQ (hS.up (Up.drew _)) ?_ _ _ rfl rfl ⟨rfl, rfl⟩ ⟨rfl, rfl⟩ ?_ ?_ ?_
    ·refine aC (.inr ⟨rfl, .inr fun W => PEv.move (.t rfl)⟩) (aC (.inr ⟨rfl, .inr fun W => PEv.move (.t rfl)⟩) (aC (.inr ⟨rfl, .inr fun W => PEv.move (.t rfl)⟩) (aC (.inr ⟨rfl, .inr fun W => PEv.move (.t rfl)⟩) (aC (.inr ⟨rfl, .inr fun W => PEv.dec (.t rfl) oQ oQ⟩) (aC (.inr ⟨rfl, .inr fun W => PEv.move (.t rfl)⟩) (aC (.inr ⟨rfl, .inr fun W => PEv.move (.t rfl)⟩) (aC (.inr ⟨rfl, .inr fun W => PEv.dec (.t rfl) oQ oQ⟩) (aC (.inr ⟨rfl, .inr fun W => PEv.indexAddr underlying26 sizeOf24 (.t rfl) (.t rfl) oQ⟩) (aC (.inr ⟨rfl, .inl ⟨by kernel_rfl, fun W hS => PEv.la isAgg24 sizeOf24 rfl ((hS.own 0 rfl).at (fun _ => rfl) hky)⟩⟩) (aC (.inr ⟨rfl, .inr fun W => PEv.move (.t rfl)⟩) (aC (.inr ⟨rfl, .inr fun W => PEv.move (.t rfl)⟩) (aC (.inr ⟨rfl, .inr fun W => PEv.indexAddr underlying26 sizeOf24 (.t rfl) (.t rfl) oQ⟩) (aC (.inr ⟨rfl, .inl ⟨by kernel_rfl, fun W hS => PEv.la isAgg24 sizeOf24 rfl ((hS.own 0 rfl).at (fun _ => rfl) hkx)⟩⟩) (aC (.inr ⟨rfl, .inr fun W => PEv.indexAddr underlying26 sizeOf24 (.t rfl) (.t rfl) oQ⟩) (aC (.inl (by simp)) (aC (.inr ⟨rfl, .inr fun W => PEv.indexAddr underlying26 sizeOf24 (.t rfl) (.t rfl) oQ⟩) (aC (.inl (by simp)) ?_)))))))))))))))))
     exact allL.nil
    ·intro W hS
     exact SEv.mono (SEv.storeOwnA (i := k) (z := y) sizeOf24 (fun _ => rfl) Fact.one (.t rfl) (.t rfl) (hS.own 0 rfl) oQ) (fun _ h => hS.stp 0 rfl h)
    ·intro W hS
     exact SEv.mono (SEv.storeOwnA (i := k - 1) (z := x) sizeOf24 (fun _ => rfl) Fact.one (.t rfl) (.t rfl) (hS.own 0 rfl) oQ) (fun _ h => hS.stp 0 rfl h)
    intro w8 hS
    have hS : Wx.Sep (aOwn 24 19 Fact.cells (.slice (some ⟨g, 0, none⟩) m cp) (xs)).foot w0 w8 [aOwn 24 19 Fact.cells (.slice (some ⟨g, 0, none⟩) m cp) (((rep xs a (mm + 1) (insAt (seg xs a mm) x (k - a))).set (k) y).set (k - 1) x)] := hS
    refine KW.inBlock (KW.then (CW.region (LW.M rfl (LW.pp (.dec (.t rfl) oQ oQ) (LW.A rfl (LW.nil (KW.round ?_)))))))
    exact ⟨k - 1, ⟨⟨by omega, by omega⟩, by have := ins_down (xs := xs) (a := a) (b := mm + 1) (x := x) (p := k - a - 1) (y := y) oQ oQ oQ oQ hy; rw [show k - a - 1 + 1 = k - a by omega, show a + (k - a) = k by omega, show a + (k - a - 1) = k - 1 by omega] at this; rw [show k - 1 - a = k - a - 1 by omega, ← this]; exact hS⟩, ⟨rfl, rfl, rfl, rfl, rfl, rfl, rfl, trivial⟩, by omega⟩
   refine CW.exit (KW.then_exit (KW.then_exit (KW.block_hit (KW.then (CW.ret (KW.then_ret (KW.ret0 rfl ⟨_, rfl, ?_⟩)))))))
   have hk2 : k = i := by simp at h110; omega
   subst hk2
   exact ⟨rfl, _, sym_last hx oQ oQ hsA hL (by rw [hij2]; exact hR), ⟨hS.fr, hS.get 0 rfl, fun _ h => .inl h⟩⟩
  | false =>
   have hq12 := of_decide_eq_false hq12
   obtain ⟨mid, hmid⟩ : ∃ mid, mid = (a + b) / 2 := ⟨_, rfl⟩
   refine CW.region (LW.M rfl (LW.M rfl (LW.pp (.subN (.t rfl) (.t rfl) oQ oQ) (LW.pp (.fa (PEv.eql (.t rfl) (.const _)) (decide_eq_false oQ)) (LW.T (CW.cond_false (.t rfl) (CW.skip (KW.then (CW.S (LW.M rfl (LW.M rfl (LW.pp (.addN (.t rfl) (.t rfl) oQ) (LW.pp (.val (v' := vu (a + b)) (PEv.conv (k' := .u64) (by rw [underlying3]; rfl) underlying176 (.t rfl)) (u64_nat oQ)) (LW.pp (.val (v' := vu ((a + b) / 2)) (PEv.shr_w (j := 1) (.t rfl) (.const _)) shr1_nat) (LW.pp (.val (v' := vi ((mid : Nat) : Int)) (PEv.conv (k' := .i64) (by rw [underlying176]; rfl) underlying3 (.t rfl)) (by rw [hmid]; exact i64_nat oQ)) (LW.A rfl (LW.S (CW.region (LW.M rfl (LW.M rfl (LW.pp (.addN (.t rfl) (.t rfl) oQ) (LW.A rfl (LW.S (CW.region (LW.C (LW.C (LW.T (CW.seq_mid (fun a1 W => ∃ s0 r0 : Nat, Ag 220 [] ([(0, .eq (.slice (some ⟨g, 0, none⟩) m cp)), (1, .eq (vi (a : Int))), (2, .eq (vi (mm : Int))), (3, .eq (vi (b : Int))), (4, .eq (.func (.func cf) #[] lb)), (18, .eq (vi (mid : Int))), (19, .eq (vi ((mid + mm : Nat) : Int))), (20, .eq (vi (s0 : Int))), (21, .eq (vi (r0 : Int)))]) a1 W ∧ ((s0 = mid + mm - b ∧ r0 = mid ∧ mid < mm) ∨ (s0 = a ∧ r0 = mm ∧ mm ≤ mid)) ∧ Wx.Sep (aOwn 24 19 Fact.cells (.slice (some ⟨g, 0, none⟩) m cp) (xs)).foot w0 W [aOwn 24 19 Fact.cells (.slice (some ⟨g, 0, none⟩) m cp) (xs)]) ?_ ?_))))))))))))))))))))))))))))
   ·skip
    refine CW.S (LW.M rfl (LW.M rfl (LW.pp (.gtr (.t rfl) (.t rfl)) (LW.T (CW.cond (.t rfl) (fun h140 => ?_) (fun h140 => ?_))))))
    ·replace h140 := dQ h140
     refine CW.S (LW.M rfl (LW.M rfl (LW.pp (.subN (.t rfl) (.t rfl) oQ oQ) (LW.A rfl (LW.T (CW.region (LW.M rfl (LW.A rfl (LW.nil ?_)))))))))
     exact fun a ha => ⟨_, _, ha.sub ⟨rfl, rfl, rfl, rfl, rfl, rfl, rfl, rfl, rfl, trivial⟩, (by exact .inl ⟨rfl, rfl, by omega⟩), hS⟩
    replace h140 := dQ h140
    refine CW.S (LW.M rfl (LW.A rfl (LW.T (CW.region (LW.M rfl (LW.A rfl (LW.nil ?_)))))))
    exact fun a ha => ⟨_, _, ha.sub ⟨rfl, rfl, rfl, rfl, rfl, rfl, rfl, rfl, rfl, trivial⟩, (by exact .inr ⟨rfl, rfl, by omega⟩), hS⟩
   rintro a1 w9 ⟨s0, r0, ha, hsr, hS⟩
   revert a1
   show CW none _ _ _ _ _ _ _ _
   refine CW.S (LW.M rfl (LW.pp (.dec (.t rfl) oQ oQ) (LW.A rfl (LW.S (CW.block (CW.loopB (σ := Nat × Nat) (fun s w => (s0 ≤ s.1 ∧ s.1 ≤ s.2 ∧ s.2 ≤ r0) ∧ (s.1 = s0 ∨ ∃ u v, xs[mid + mm - s.1]? = some u ∧ xs[s.1 - 1]? = some v ∧ ltK (key u) (key v) = false) ∧ (s.2 = r0 ∨ ∃ u v, xs[mid + mm - 1 - s.2]? = some u ∧ xs[s.2]? = some v ∧ ltK (key u) (key v) = true) ∧ (Wx.Sep (aOwn 24 19 Fact.cells (.slice (some ⟨g, 0, none⟩) m cp) (xs)).foot w0 w [aOwn 24 19 Fact.cells (.slice (some ⟨g, 0, none⟩) m cp) (xs)])) (fun s => [(20, .eq (vi (s.1 : Int))), (21, .eq (vi (s.2 : Int)))]) ([(0, .eq _), (1, .eq _), (2, .eq _), (3, .eq _), (4, .eq _), (18, .eq _), (19, .eq _), (22, .eq _)]) (fun s => s.2 - s.1) (s0, r0) ?_ ⟨rfl, rfl, rfl, rfl, rfl, rfl, rfl, rfl, rfl, rfl, trivial⟩ ?_))))))
   ·exact ⟨⟨Nat.le_refl _, by show s0 ≤ r0; omega, Nat.le_refl _⟩, .inl rfl, .inl rfl, hS⟩
   rintro ⟨s, r⟩ w10 ⟨hq, hs, hr, hS⟩
   dsimp only at hq hs hr hS
   change CW _ _ _ _ _ _ _ ([(20, .eq (vi (s : Int))), (21, .eq (vi (r : Int)))] ++ _) _
   refine CW.seq (CW.S (LW.M rfl (LW.M rfl (LW.pp (.lss (.t rfl) (.t rfl)) (LW.T (CW.cond (.t rfl) (fun h151 => ?_) (fun h151 => ?_)))))))
   ·replace h151 := dQ h151
    refine CW.skip (KW.then (CW.block (CW.S (LW.M rfl (LW.M rfl (LW.pp (.addN (.t rfl) (.t rfl) oQ) (LW.pp (.val (v' := vu (s + r)) (PEv.conv (k' := .u64) (by rw [underlying3]; rfl) underlying176 (.t rfl)) (u64_nat oQ)) (LW.pp (.val (v' := vu ((s + r) / 2)) (PEv.shr_w (j := 1) (.t rfl) (.const _)) shr1_nat) (LW.pp (.val (v' := vi (((s + r) / 2 : Nat) : Int)) (PEv.conv (k' := .i64) (by rw [underlying176]; rfl) underlying3 (.t rfl)) (i64_nat oQ)) (LW.A rfl (LW.S ?_)))))))))))
    have hlt : s < r := by simp at h151; omega
    obtain ⟨u, hu_⟩ := getElem?_of_lt (xs := xs) (i := mid + mm - 1 - (s + r) / 2) oQ
    obtain ⟨v, hv_⟩ := getElem?_of_lt (xs := xs) (i := (s + r) / 2) oQ
    refine CW.draws kQ kQ rfl rfl (HW.pp (.move (.t rfl)) (HW.pp (.move (.t rfl)) (HW.pp (.move (.t rfl)) (HW.pp (.move (.t rfl)) (HW.pp (.subN (.t rfl) (.t rfl) oQ oQ) (HW.pp (.indexAddr underlying26 sizeOf24 (.t rfl) (.t rfl) oQ) (HW.pp (.la isAgg24 sizeOf24 rfl ((hS.own 0 rfl).at (fun _ => rfl) hu_)) (HW.pp (.move (.t rfl)) (HW.pp (.move (.t rfl)) (HW.pp (.indexAddr underlying26 sizeOf24 (.t rfl) (.t rfl) oQ) (HW.pp (.la isAgg24 sizeOf24 rfl ((hS.own 0 rfl).at (fun _ => rfl) hv_)) (HW.c (fun a w _ ha => enter_call (.t rfl) (.cons (.t rfl) (.cons (.t rfl) .nil)) (hen) a ha) rfl rfl (fun w hu => hcmp w (hS.fr.trans (hu.fr _)) u v) (HW.pp (.lss (.t rfl) (.const _)) (HW.pp (.not (.t rfl)) (HW.nil ?_)))))))))))))))
    intro w11 uw11
    replace hS := hS.up uw11
    refine KW.then (CW.cond (.t rfl) (fun h171 => ?_) (fun h171 => ?_))
    ·replace h171 := dQ h171
     refine CW.region (LW.M rfl (LW.pp (.inc (.t rfl) oQ) (LW.A rfl (LW.nil (KW.inBlock (KW.round ?_))))))
     exact ⟨((s + r) / 2 + 1, r), ⟨⟨by show s0 ≤ (s + r) / 2 + 1; omega, by show (s + r) / 2 + 1 ≤ r; omega, by show r ≤ r0; omega⟩, .inr ⟨u, v, by show xs[mid + mm - ((s + r) / 2 + 1)]? = some u; rw [show mid + mm - ((s + r) / 2 + 1) = mid + mm - 1 - (s + r) / 2 by omega]; exact hu_, hv_, by rw [← cmpK_neg]; simpa using h171⟩, hr, hS⟩, ⟨rfl, rfl, rfl, rfl, rfl, rfl, rfl, rfl, rfl, rfl, trivial⟩, by omega⟩
    replace h171 := dQ h171
    refine CW.region (LW.M rfl (LW.A rfl (LW.nil (KW.inBlock (KW.round ?_)))))
    exact ⟨(s, (s + r) / 2), ⟨⟨by show s0 ≤ s; omega, by show s ≤ (s + r) / 2; omega, by show (s + r) / 2 ≤ r0; omega⟩, hs, .inr ⟨u, v, hu_, hv_, by rw [← cmpK_neg]; simpa using h171⟩, hS⟩, ⟨rfl, rfl, rfl, rfl, rfl, rfl, rfl, rfl, rfl, rfl, trivial⟩, by omega⟩
   replace h151 := dQ h151
   refine CW.exit (KW.then_exit (KW.then_exit (KW.block_hit (KW.then (CW.seq ?_)))))
   have hsr2 : s = r := by simp at h151; omega
   obtain ⟨e, he⟩ : ∃ e, e = mid + mm - s := ⟨_, rfl⟩
   have hsm : s ≤ mm := by omega
   have hme : mm ≤ e := by omega
   have has : a ≤ s := by omega
   have heb : e ≤ b := by omega
   have hmd : mid = s + (e - mm) := by omega
   have hrl : (rot xs s mm e).length = m := by rw [rot_length hsm hme (by omega)]; exact hxl
   refine CW.region (LW.M rfl (LW.M rfl (LW.pp (.val (v' := vi (e : Int)) (PEv.subN (.t rfl) (.t rfl) oQ oQ) (by rw [he])) (LW.A rfl (LW.T (CW.seq_mid (fun a1 W => Ag 220 [] ([(0, .eq (.slice (some ⟨g, 0, none⟩) m cp)), (1, .eq (vi (a : Int))), (3, .eq (vi (b : Int))), (4, .eq (.func (.func cf) #[] lb)), (18, .eq (vi (mid : Int))), (20, .eq (vi (s : Int))), (24, .eq (vi (e : Int)))]) a1 W ∧ Wx.Sep (aOwn 24 19 Fact.cells (.slice (some ⟨g, 0, none⟩) m cp) (xs)).foot w0 W [aOwn 24 19 Fact.cells (.slice (some ⟨g, 0, none⟩) m cp) (rot xs s mm e)]) ?_ ?_))))))
   ·skip
    refine CW.S (LW.M rfl (LW.M rfl (LW.pp (.lss (.t rfl) (.t rfl)) (LW.M rfl (LW.g rfl rfl rfl rfl rfl rfl rfl (fun hc => PEv.move (.t rfl)) (LW.g rfl rfl rfl rfl rfl rfl rfl (fun hc => PEv.move (.t rfl)) (LW.g rfl rfl rfl rfl rfl rfl rfl (fun hc => PEv.lss vQ vQ) (LW.pp (.pick_and (.t rfl) (fun hp => .cond rfl (by rw [hp]; rfl))) (LW.T (CW.cond (.t rfl) (fun h185 => ?_) (fun h185 => ?_)))))))))))
    ·refine CW.region (LW.M rfl (LW.M rfl (LW.M rfl (LW.M rfl (LW.M rfl (LW.K (eC (.cons (.t rfl) (.cons (.t rfl) (.cons (.t rfl) (.cons (.t rfl) (.cons (.t rfl) .nil))))) (en243)) rfl (rotate_any s mm e _ g m cp xs _ (hS.own 0 rfl) h63 (by have := and_yes h185; omega) (by have := and_yes h185; omega) oQ) ?_))))))
     rintro _ w12 ⟨rfl, uw12⟩
     replace hS := hS.stp 0 rfl uw12
     change Wx.Sep _ _ _ [_] at hS
     refine LW.nil ?_
     exact fun a ha => ⟨ha.sub ⟨rfl, rfl, rfl, rfl, rfl, rfl, rfl, trivial⟩, (by exact hS)⟩
    refine CW.skip ?_
    exact fun a ha => ⟨ha.sub ⟨rfl, rfl, rfl, rfl, rfl, rfl, rfl, trivial⟩, (by (rw [rot_triv (and_no h185) hsm hme (by omega)]; exact hS))⟩
   rintro a1 w13 ⟨ha, hS⟩
   revert a1
   show CW none _ _ _ _ _ _ _ _
   refine CW.seq_mid (fun a1 W => Ag 220 [] ([(0, .eq (.slice (some ⟨g, 0, none⟩) m cp)), (3, .eq (vi (b : Int))), (4, .eq (.func (.func cf) #[] lb)), (18, .eq (vi (mid : Int))), (24, .eq (vi (e : Int)))]) a1 W ∧ ∃ X, StS key (seg (rot xs s mm e) a mid) X ∧ Wx.Sep (aOwn 24 19 Fact.cells (.slice (some ⟨g, 0, none⟩) m cp) (xs)).foot w0 W [aOwn 24 19 Fact.cells (.slice (some ⟨g, 0, none⟩) m cp) (rep (rot xs s mm e) a mid X)]) ?_ ?_
   ·skip
    refine CW.S (LW.M rfl (LW.M rfl (LW.pp (.lss (.t rfl) (.t rfl)) (LW.M rfl (LW.g rfl rfl rfl rfl rfl rfl rfl (fun hc => PEv.move (.t rfl)) (LW.g rfl rfl rfl rfl rfl rfl rfl (fun hc => PEv.move (.t rfl)) (LW.g rfl rfl rfl rfl rfl rfl rfl (fun hc => PEv.lss vQ vQ) (LW.pp (.pick_and (.t rfl) (fun hp => .cond rfl (by rw [hp]; rfl))) (LW.T (CW.cond (.t rfl) (fun h199 => ?_) (fun h199 => ?_)))))))))))
    ·refine CW.region (LW.M rfl (LW.M rfl (LW.M rfl (LW.M rfl (LW.M rfl (LW.K (eC (.cons (.t rfl) (.cons (.t rfl) (.cons (.t rfl) (.cons (.t rfl) (.cons (.t rfl) .nil))))) (en239)) rfl (ih a s mid (rot xs s mm e) _ oQ (hS.own 0 rfl) (fun W hF x y => hcmp W (hS.fr.trans hF) x y) (by have := and_yes h199; omega) (by have := and_yes h199; omega) oQ (sym_ih1 hsA hsB oQ oQ oQ oQ oQ).1 (sym_ih1 hsA hsB oQ oQ oQ oQ oQ).2) ?_))))))
     rintro _ w14 ⟨rfl, X, hX, uw14⟩
     replace hS := hS.stp 0 rfl uw14
     change Wx.Sep _ _ _ [_] at hS
     refine LW.nil ?_
     exact fun a ha => ⟨ha.sub ⟨rfl, rfl, rfl, rfl, rfl, trivial⟩, (by exact ⟨X, hX, hS⟩)⟩
    refine CW.skip ?_
    exact fun a ha => ⟨ha.sub ⟨rfl, rfl, rfl, rfl, rfl, trivial⟩, (by exact ⟨_, StS.refl (sym_skipL hsA hsB has hsm hme heb oQ hmd (and_no h199)), by rw [rep_same oQ (by omega)]; exact hS⟩)⟩
   rintro a1 w15 ⟨ha, X, hX, hS⟩
   revert a1
   show CW none _ _ _ _ _ _ _ _
   refine CW.seq ?_
   have hXl : X.length = mid - a := by rw [hX.same.length, seg_length (by omega)]
   have hrl2 : (rep (rot xs s mm e) a mid X).length = m := by rw [rep_length oQ oQ hXl]; exact hrl
   refine CW.region (LW.M rfl (LW.M rfl (LW.pp (.lss (.t rfl) (.t rfl)) (LW.M rfl (LW.g rfl rfl rfl rfl rfl rfl rfl (fun hc => PEv.move (.t rfl)) (LW.g rfl rfl rfl rfl rfl rfl rfl (fun hc => PEv.move (.t rfl)) (LW.g rfl rfl rfl rfl rfl rfl rfl (fun hc => PEv.lss vQ vQ) (LW.pp (.pick_and (.t rfl) (fun hp => .cond rfl (by rw [hp]; rfl))) (LW.T (CW.cond (.t rfl) (fun h213 => ?_) (fun h213 => ?_)))))))))))
   ·refine CW.region (LW.M rfl (LW.M rfl (LW.M rfl (LW.M rfl (LW.M rfl (LW.K (eC (.cons (.t rfl) (.cons (.t rfl) (.cons (.t rfl) (.cons (.t rfl) (.cons (.t rfl) .nil))))) (en239)) rfl (ih mid e b (rep (rot xs s mm e) a mid X) _ oQ (hS.own 0 rfl) (fun W hF x y => hcmp W (hS.fr.trans hF) x y) (by have := and_yes h213; omega) (by have := and_yes h213; omega) oQ (sym_ih2 hsA hsB oQ oQ oQ oQ oQ oQ hXl).1 (sym_ih2 hsA hsB oQ oQ oQ oQ oQ oQ hXl).2) ?_))))))
    rintro _ w16 ⟨rfl, Y, hY, uw16⟩
    replace hS := hS.stp 0 rfl uw16
    change Wx.Sep _ _ _ [_] at hS
    refine LW.nil (KW.end0 rfl ⟨_, rfl, ?_⟩)
    obtain ⟨Y, hY, hS2⟩ : ∃ Y, StS key (seg (rep (rot xs s mm e) a mid X) mid b) Y ∧ Wx.Sep (aOwn 24 19 Fact.cells (.slice (some ⟨g, 0, none⟩) m cp) (xs)).foot w0 w16 [aOwn 24 19 Fact.cells (.slice (some ⟨g, 0, none⟩) m cp) (rep (rep (rot xs s mm e) a mid X) mid b Y)] := by exact ⟨Y, hY, hS⟩
    have hd := sym_done has hsm hme heb oQ hmd hsA hsB (sym_h1 hsA hsB hsm hme oQ (hs.elim (fun h => hsr.elim (fun q => .inr (.inl oQ)) (fun q => .inl oQ)) (fun ⟨u, v, e1, e2, e3⟩ => .inr (.inr ⟨u, v, by rw [he]; exact e1, e2, e3⟩)))) (sym_h2 hsA hsB has heb oQ oQ (hr.elim (fun h => hsr.elim (fun q => .inr (.inl oQ)) (fun q => .inl oQ)) (fun ⟨u, v, e1, e2, e3⟩ => .inr (.inr ⟨u, v, by rw [he, hsr2, show mid + mm - r - 1 = mid + mm - 1 - r by omega]; exact e1, by rw [hsr2]; exact e2, e3⟩)))) hX hY
    rw [hd.2] at hS2
    exact ⟨rfl, X ++ Y, hd.1, ⟨hS2.fr, hS2.get 0 rfl, fun _ h => .inl h⟩⟩
   refine CW.skip (KW.end0 rfl ⟨_, rfl, ?_⟩)
   obtain ⟨Y, hY, hS2⟩ : ∃ Y, StS key (seg (rep (rot xs s mm e) a mid X) mid b) Y ∧ Wx.Sep (aOwn 24 19 Fact.cells (.slice (some ⟨g, 0, none⟩) m cp) (xs)).foot w0 w15 [aOwn 24 19 Fact.cells (.slice (some ⟨g, 0, none⟩) m cp) (rep (rep (rot xs s mm e) a mid X) mid b Y)] := by exact ⟨_, StS.refl (sym_skipR hsA hsB has hsm hme heb oQ hmd hXl (and_no h213)), by rw [rep_same oQ (by omega)]; exact hS⟩
   have hd := sym_done has hsm hme heb oQ hmd hsA hsB (sym_h1 hsA hsB hsm hme oQ (hs.elim (fun h => hsr.elim (fun q => .inr (.inl oQ)) (fun q => .inl oQ)) (fun ⟨u, v, e1, e2, e3⟩ => .inr (.inr ⟨u, v, by rw [he]; exact e1, e2, e3⟩)))) (sym_h2 hsA hsB has heb oQ oQ (hr.elim (fun h => hsr.elim (fun q => .inr (.inl oQ)) (fun q => .inl oQ)) (fun ⟨u, v, e1, e2, e3⟩ => .inr (.inr ⟨u, v, by rw [he, hsr2, show mid + mm - r - 1 = mid + mm - 1 - r by omega]; exact e1, by rw [hsr2]; exact e2, e3⟩)))) hX hY
   rw [hd.2] at hS2
   exact ⟨rfl, X ++ Y, hd.1, ⟨hS2.fr, hS2.get 0 rfl, fun _ h => .inl h⟩⟩
end Go.Proofs.YtbbpkdlehlamlaaGreatDoor
namespace Go.Wx
theorem mul2_nat {z : Nat} (h : 2 * z < 9223372036854775808) : Go.Value.int .i64 (IntKind.i64.wrap (2 * (z : Int))) = vi ((2 * z : Nat) : Int) := by
 rw [wrap_i64_in oQ oQ, Int.natCast_mul]; rfl
theorem mul2_nat' {z : Nat} (h : 2 * z < 9223372036854775808) : Go.Value.int .i64 (IntKind.i64.wrap ((z : Int) * 2)) = vi ((2 * z : Nat) : Int) := by
 rw [Int.mul_comm]; exact mul2_nat h
theorem vi_nat {a b : Nat} (h : a = b) : vi (a : Int) = vi (b : Int) := by rw [h]
end Go.Wx
namespace Go.Proofs.YtbbpkdlehlamlaaGreatDoor
open Go.Proofs.Tryz
open Go.Wx Go.RowKit
set_option maxHeartbeats 2000000 in
theorem stable_any (cf : Nat) (lb : Array Go.Value) (key : Fact → K2) (hen : ∀ args w, (callFunc cf args).run prog w = .ok (.enter cf args) w) (g m cp : Nat) (xs : List Fact) (w : World) (ho : OwnS w 0 24 19 Fact.cells (.slice (some ⟨g, 0, none⟩) m cp) xs) (h63 : m ≤ 1000000000) (hcmp : ∀ W, Fr (aOwn 24 19 Fact.cells (.slice (some ⟨g, 0, none⟩) m cp) (xs)).foot w W → ∀ x y, Ret prog cf (#[.agg (Fact.cells x), .agg (Fact.cells y)] ++ lb) W fun r W' => r = vi (cmpK (key x) (key y)) ∧ Up W W') : Ret prog 211 #[.slice (some ⟨g, 0, none⟩) m cp, vi (m : Int), .func (.func cf) #[] lb] w fun r w' => r = .tuple #[] ∧ ∃ zs, StS key xs zs ∧ Stp (aOwn 24 19 Fact.cells (.slice (some ⟨g, 0, none⟩) m cp) (xs)) (aOwn 24 19 Fact.cells (.slice (some ⟨g, 0, none⟩) m cp) (zs)) w w' := by
 obtain ⟨w0, rfl⟩ : ∃ w0, w0 = w := ⟨_, rfl⟩
 have hxl := ho.len
 have hS : Wx.Sep (aOwn 24 19 Fact.cells (.slice (some ⟨g, 0, none⟩) m cp) (xs)).foot w0 w0 [aOwn 24 19 Fact.cells (.slice (some ⟨g, 0, none⟩) m cp) (xs)] := Sep.cons ho (fun _ h => h) (Sep.start _ _) (by simp)
 refine cS (n := 63) (m := 9) func211 rfl rfl rfl (CW.S (LW.pp (.val (v' := vi ((20 : Nat) : Int)) (PEv.assign (.const _)) rfl) (LW.S (CW.region (LW.M rfl (LW.C (LW.A rfl (LW.S (CW.block (CW.loopB (σ := Nat × List Fact) (fun s w => (s.1 ≤ m) ∧ (s.2.length = m) ∧ (Ins key s.2 20 s.1) ∧ (sameF key xs s.2) ∧ (Wx.Sep (aOwn 24 19 Fact.cells (.slice (some ⟨g, 0, none⟩) m cp) (xs)).foot w0 w [aOwn 24 19 Fact.cells (.slice (some ⟨g, 0, none⟩) m cp) (s.2)])) (fun s => [(7, .eq (vi (s.1 : Int))), (8, .eq (vi ((s.1 + 20 : Nat) : Int)))]) ([(0, .eq _), (1, .eq _), (2, .eq _), (6, .eq _)]) (fun s => m - s.1) (0, xs) ?_ ⟨rfl, rfl, rfl, rfl, rfl, rfl, trivial⟩ ?_))))))))))
 ·exact ⟨Nat.zero_le _, hxl, Ins.zero xs 20 cQ, sameF.refl xs, hS⟩
 rintro ⟨a, ys⟩ w1 ⟨ha, hyl, hI, hsf, hS⟩
 dsimp only at ha hyl hI hsf hS
 change CW _ _ _ _ _ _ _ ([(7, .eq (vi (a : Int))), (8, .eq (vi ((a + 20 : Nat) : Int)))] ++ _) _
 refine CW.seq (CW.S (LW.M rfl (LW.M rfl (LW.pp (.leq (.t rfl) (.t rfl)) (LW.T (CW.cond (.t rfl) (fun h13 => ?_) (fun h13 => ?_)))))))
 ·refine CW.skip (KW.then (CW.block (CW.seq ?_)))
  have hal : a + 20 ≤ m := by simp at h13; omega
  refine CW.region (LW.M rfl (LW.M rfl (LW.M rfl (LW.M rfl (LW.K (eC (.cons (.t rfl) (.cons (.t rfl) (.cons (.t rfl) (.cons (.t rfl) .nil)))) (en238)) rfl (insertion_any a (a + 20) cf lb key hen g m cp ys _ (hS.own 0 rfl) h63 (fun W hF x y => hcmp W (hS.fr.trans hF) x y) oQ oQ) ?_)))))
  rintro _ w2 ⟨rfl, zs, hz, uw2⟩
  replace hS := hS.stp 0 rfl uw2
  refine LW.S (CW.region (LW.M rfl (LW.A rfl (LW.T (CW.region (LW.M rfl (LW.M rfl (LW.pp (.addN (.t rfl) (.t rfl) oQ) (LW.A rfl (LW.nil (KW.inBlock (KW.round ?_))))))))))))
  exact ⟨(a + 20, rep ys a (a + 20) zs), ⟨by show a + 20 ≤ m; omega, by show (rep ys a (a + 20) zs).length = m; rw [rep_length oQ oQ (by rw [hz.same.length, seg_length (by omega)])]; exact hyl, hI.step cQ oQ hz, hsf.step oQ oQ hz, hS⟩, ⟨rfl, rfl, rfl, rfl, rfl, rfl, trivial⟩, by show m - (a + 20) < m - a; omega⟩
 refine CW.exit (KW.then_exit (KW.then_exit (KW.block_hit (KW.then (CW.seq ?_)))))
 have hal : m < a + 20 := by simp at h13; omega
 refine CW.region (LW.M rfl (LW.M rfl (LW.M rfl (LW.M rfl (LW.K (eC (.cons (.t rfl) (.cons (.t rfl) (.cons (.t rfl) (.cons (.t rfl) .nil)))) (en238)) rfl (insertion_any a m cf lb key hen g m cp ys _ (hS.own 0 rfl) h63 (fun W hF x y => hcmp W (hS.fr.trans hF) x y) oQ oQ) ?_)))))
 rintro _ w3 ⟨rfl, zs, hz, uw3⟩
 replace hS := hS.stp 0 rfl uw3
 refine LW.T (CW.block (CW.loopB (σ := Nat × List Fact) (fun s w => (0 < s.1) ∧ (s.2.length = m) ∧ (Bks key s.2 s.1) ∧ (sameF key xs s.2) ∧ (Wx.Sep (aOwn 24 19 Fact.cells (.slice (some ⟨g, 0, none⟩) m cp) (xs)).foot w0 w [aOwn 24 19 Fact.cells (.slice (some ⟨g, 0, none⟩) m cp) (s.2)])) (fun s => [(6, .eq (vi (s.1 : Int)))]) ([(0, .eq _), (1, .eq _), (2, .eq _)]) (fun s => m - s.1) (20, rep ys a m zs) ?_ ⟨rfl, rfl, rfl, rfl, trivial⟩ ?_))
 ·exact ⟨by show 0 < 20; omega, by show (rep ys a m zs).length = m; rw [rep_length oQ oQ (by rw [hz.same.length, seg_length (by omega)])]; exact hyl, by have := hI.last (zs := zs) oQ oQ (by rw [hyl]; exact hz); rw [hyl] at this; exact this, hsf.step oQ oQ hz, hS⟩
 rintro ⟨B, ys⟩ w4 ⟨hB, hyl, hI, hsf, hS⟩
 dsimp only at hB hyl hI hsf hS
 change CW _ _ _ _ _ _ _ ([(6, .eq (vi (B : Int)))] ++ _) _
 refine CW.seq (CW.S (LW.M rfl (LW.M rfl (LW.pp (.lss (.t rfl) (.t rfl)) (LW.T (CW.cond (.t rfl) (fun h30 => ?_) (fun h30 => ?_)))))))
 ·refine CW.skip (KW.then (CW.block (CW.seq ?_)))
  have hBm : B < m := by simp at h30; omega
  refine CW.region (LW.M rfl (LW.pp (.val (v' := vi ((2 * B : Nat) : Int)) (PEv.mul_w (.const _) (.t rfl)) (mul2_nat oQ)) (LW.C (LW.A rfl (LW.S (CW.block (CW.loopB (σ := Nat × List Fact) (fun s w => (s.1 ≤ m) ∧ (s.2.length = m) ∧ (Mrg key s.2 B s.1) ∧ (sameF key xs s.2) ∧ (Wx.Sep (aOwn 24 19 Fact.cells (.slice (some ⟨g, 0, none⟩) m cp) (xs)).foot w0 w [aOwn 24 19 Fact.cells (.slice (some ⟨g, 0, none⟩) m cp) (s.2)])) (fun s => [(7, .eq (vi (s.1 : Int))), (8, .eq (vi ((2 * B + s.1 : Nat) : Int)))]) ([(0, .eq _), (1, .eq _), (2, .eq _), (6, .eq _)]) (fun s => m - s.1) (0, ys) ?_ ⟨rfl, rfl, rfl, rfl, rfl, rfl, trivial⟩ ?_)))))))
  ·exact ⟨Nat.zero_le _, hyl, Mrg.start hB hI, hsf, hS⟩
  rintro ⟨a, ys⟩ w5 ⟨ha, hyl, hM, hsf, hS⟩
  dsimp only at ha hyl hM hsf hS
  change CW _ _ _ _ _ _ _ ([(7, .eq (vi (a : Int))), (8, .eq (vi ((2 * B + a : Nat) : Int)))] ++ _) _
  refine CW.seq (CW.S (LW.M rfl (LW.M rfl (LW.pp (.leq (.t rfl) (.t rfl)) (LW.T (CW.cond (.t rfl) (fun h35 => ?_) (fun h35 => ?_)))))))
  ·refine CW.skip (KW.then (CW.block (CW.seq ?_)))
   have hal : 2 * B + a ≤ m := by simp at h35; omega
   refine CW.region (LW.M rfl (LW.M rfl (LW.M rfl (LW.M rfl (LW.pp (.addN (.t rfl) (.t rfl) oQ) (LW.M rfl (LW.M rfl (LW.K (eC (.cons (.t rfl) (.cons (.t rfl) (.cons (.t rfl) (.cons (.t rfl) (.cons (.t rfl) .nil))))) (en239)) rfl (symMerge_any cf lb key hen g m cp h63 m a (a + B) (2 * B + a) ys _ oQ (hS.own 0 rfl) (fun W hF x y => hcmp W (hS.fr.trans hF) x y) oQ oQ oQ (hM.pre oQ).1 (hM.pre oQ).2) ?_))))))))
   rintro _ w6 ⟨rfl, zs, hz, uw6⟩
   replace hS := hS.stp 0 rfl uw6
   refine LW.S (CW.region (LW.M rfl (LW.A rfl (LW.T (CW.region (LW.M rfl (LW.M rfl (LW.pp (.val (v' := vi ((2 * B : Nat) : Int)) (PEv.mul_w (.const _) (.t rfl)) (mul2_nat oQ)) (LW.pp (.val (v' := vi ((2 * B + (2 * B + a) : Nat) : Int)) (PEv.addN (.t rfl) (.t rfl) oQ) (vi_nat oQ)) (LW.A rfl (LW.nil (KW.inBlock (KW.round ?_)))))))))))))
   exact ⟨(2 * B + a, rep ys a (2 * B + a) zs), ⟨by show 2 * B + a ≤ m; omega, by show (rep ys a (2 * B + a) zs).length = m; rw [rep_length oQ oQ (by rw [hz.same.length, seg_length (by omega)])]; exact hyl, hM.step hB oQ hz, hsf.step oQ oQ hz, hS⟩, ⟨rfl, rfl, rfl, rfl, rfl, rfl, trivial⟩, by show m - (2 * B + a) < m - a; omega⟩
  refine CW.exit (KW.then_exit (KW.then_exit (KW.block_hit (KW.then (CW.seq (CW.seq ?_))))))
  have hal : m < 2 * B + a := by simp at h35; omega
  refine CW.region (LW.M rfl (LW.M rfl (LW.pp (.addN (.t rfl) (.t rfl) oQ) (LW.A rfl (LW.S (CW.region (LW.M rfl (LW.M rfl (LW.pp (.lss (.t rfl) (.t rfl)) (LW.T (CW.cond (.t rfl) (fun h54 => ?_) (fun h54 => ?_))))))))))))
  ·have ham : a + B < m := by simp at h54; omega
   refine CW.region (LW.M rfl (LW.M rfl (LW.M rfl (LW.M rfl (LW.M rfl (LW.K (eC (.cons (.t rfl) (.cons (.t rfl) (.cons (.t rfl) (.cons (.t rfl) (.cons (.t rfl) .nil))))) (en239)) rfl (symMerge_any cf lb key hen g m cp h63 m a (a + B) m ys _ oQ (hS.own 0 rfl) (fun W hF x y => hcmp W (hS.fr.trans hF) x y) oQ oQ (Nat.le_refl _) (hM.pre2 oQ oQ).1 (by have := (hM.pre2 oQ oQ).2; rw [hyl] at this; exact this)) ?_))))))
   rintro _ w7 ⟨rfl, zs, hz, uw7⟩
   replace hS := hS.stp 0 rfl uw7
   refine LW.T (CW.region (LW.M rfl (LW.pp (.val (v' := vi ((2 * B : Nat) : Int)) (PEv.mul_w (.t rfl) (.const _)) (mul2_nat' oQ)) (LW.A rfl (LW.nil (KW.inBlock (KW.round ?_)))))))
   exact ⟨(2 * B, rep ys a m zs), ⟨by show 0 < 2 * B; omega, by show (rep ys a m zs).length = m; rw [rep_length oQ oQ (by rw [hz.same.length, seg_length (by omega)])]; exact hyl, by have := hM.last (zs := zs) oQ oQ (by rw [hyl]; exact hz); rw [hyl] at this; exact this, hsf.step oQ oQ hz, hS⟩, ⟨rfl, rfl, rfl, rfl, trivial⟩, by show m - 2 * B < m - B; omega⟩
  have ham : ¬ a + B < m := by simp at h54; omega
  refine CW.skip (KW.then (CW.region (LW.M rfl (LW.pp (.val (v' := vi ((2 * B : Nat) : Int)) (PEv.mul_w (.t rfl) (.const _)) (mul2_nat' oQ)) (LW.A rfl (LW.nil (KW.inBlock (KW.round ?_))))))))
  exact ⟨(2 * B, ys), ⟨by show 0 < 2 * B; omega, hyl, hM.done oQ oQ oQ, hsf, hS⟩, ⟨rfl, rfl, rfl, rfl, trivial⟩, by show m - 2 * B < m - B; omega⟩
 refine CW.exit (KW.then_exit (KW.then_exit (KW.block_hit (KW.end0 rfl ⟨_, rfl, ?_⟩))))
 exact ⟨rfl, ys, hI.all (by simp at h30; omega) hsf, ⟨hS.fr, hS.get 0 rfl, fun _ h => .inl h⟩⟩
theorem stableFunc_any (cf : Nat) (lb : Array Go.Value) (key : Fact → K2) (hen : ∀ args w, (callFunc cf args).run prog w = .ok (.enter cf args) w) (g m cp : Nat) (xs : List Fact) (w : World) (ho : OwnS w 0 24 19 Fact.cells (.slice (some ⟨g, 0, none⟩) m cp) xs) (h63 : m ≤ 1000000000) (hcmp : ∀ W, Fr (aOwn 24 19 Fact.cells (.slice (some ⟨g, 0, none⟩) m cp) (xs)).foot w W → ∀ x y, Ret prog cf (#[.agg (Fact.cells x), .agg (Fact.cells y)] ++ lb) W fun r W' => r = vi (cmpK (key x) (key y)) ∧ Up W W') : Ret prog 135 #[.slice (some ⟨g, 0, none⟩) m cp, .func (.func cf) #[] lb] w fun r w' => r = .tuple #[] ∧ ∃ zs, StS key xs zs ∧ Stp (aOwn 24 19 Fact.cells (.slice (some ⟨g, 0, none⟩) m cp) (xs)) (aOwn 24 19 Fact.cells (.slice (some ⟨g, 0, none⟩) m cp) (zs)) w w' := by
 obtain ⟨w0, rfl⟩ : ∃ w0, w0 = w := ⟨_, rfl⟩
 have hS : Wx.Sep (aOwn 24 19 Fact.cells (.slice (some ⟨g, 0, none⟩) m cp) (xs)).foot w0 w0 [aOwn 24 19 Fact.cells (.slice (some ⟨g, 0, none⟩) m cp) (xs)] := Sep.cons ho (fun _ h => h) (Sep.start _ _) (by simp)
 refine cS (n := 9) (m := 9) func135 rfl rfl rfl (CW.region (LW.M rfl (LW.M rfl (LW.pp (.lenS underlying26 (.t rfl)) (LW.M rfl (LW.K (eC (.cons (.t rfl) (.cons (.t rfl) (.cons (.t rfl) .nil))) (en211)) rfl (stable_any cf lb key hen g m cp xs _ (hS.own 0 rfl) h63 (fun W hF x y => hcmp W (hS.fr.trans hF) x y)) ?_))))))
 rintro _ w1 ⟨rfl, zs, hz, uw1⟩
 replace hS := hS.stp 0 rfl uw1
 refine LW.nil (KW.end0 rfl ⟨_, rfl, ?_⟩)
 exact ⟨rfl, zs, hz, ⟨hS.fr, hS.get 0 rfl, fun _ h => .inl h⟩⟩
end Go.Proofs.YtbbpkdlehlamlaaGreatDoor
namespace Go.Proofs.YtbbpkdlehlamlaaGreatDoor
open Go.Proofs.Tryz
open Go.Wx Go.RowKit
theorem insertion_nil (fv : Go.Value) (w : World) : Ret prog 238 #[.slice none 0 0, vi 0, vi 0, fv] w fun r w' => r = .tuple #[] ∧ Up w w' := by
 have hW := Up.refl w
 obtain ⟨w0, rfl⟩ : ∃ w0, w0 = w := ⟨_, rfl⟩
 refine cS (n := 53) (m := 9) func238 rfl rfl rfl (CW.S (LW.M rfl (LW.pp (.val (v' := vi 1) (PEv.add (.t rfl) (.const _) oQ oQ) rfl) (LW.A rfl (LW.T (CW.block (CW.loopB (σ := Unit) (fun s w => (True) ∧ (Up w0 w)) (fun s => [(8, .eq (vi 1))]) ([(0, .eq _), (1, .eq _), (2, .eq _), (3, .eq _)]) (fun s => 0) () ?_ ⟨rfl, rfl, rfl, rfl, rfl, trivial⟩ ?_)))))))
 ·exact ⟨trivial, hW⟩
 rintro _ w1 ⟨ht, hW⟩
 refine CW.seq (CW.S (LW.M rfl (LW.M rfl (LW.pp (.fa (PEv.lss (.t rfl) (.t rfl)) cQ) (LW.T (CW.cond_false (.t rfl) (CW.exit (KW.then_exit (KW.then_exit (KW.block_hit (KW.end0 rfl ⟨_, rfl, ?_⟩)))))))))))
 exact ⟨rfl, hW⟩
theorem stable_nil (fv : Go.Value) (w : World) : Ret prog 211 #[.slice none 0 0, vi 0, fv] w fun r w' => r = .tuple #[] ∧ Up w w' := by
 have hW := Up.refl w
 obtain ⟨w0, rfl⟩ : ∃ w0, w0 = w := ⟨_, rfl⟩
 refine cS (n := 63) (m := 9) func211 rfl rfl rfl (CW.S (LW.C (LW.S (CW.region (LW.M rfl (LW.C (LW.A rfl (LW.S (CW.block (CW.loopB (σ := Unit) (fun s w => (True) ∧ (Up w0 w)) (fun s => [(7, .eq (vi 0)), (8, .eq (vi 20))]) ([(0, .eq _), (1, .eq _), (2, .eq _), (6, .eq _)]) (fun s => 0) () ?_ ⟨rfl, rfl, rfl, rfl, rfl, rfl, trivial⟩ ?_))))))))))
 ·exact ⟨trivial, hW⟩
 rintro _ w1 ⟨ht, hW⟩
 refine CW.seq (CW.S (LW.M rfl (LW.M rfl (LW.pp (.fa (PEv.leq (.t rfl) (.t rfl)) cQ) (LW.T (CW.cond_false (.t rfl) (CW.exit (KW.then_exit (KW.then_exit (KW.block_hit (KW.then (CW.S (LW.M rfl (LW.M rfl (LW.M rfl (LW.M rfl (LW.K (eC (.cons (.t rfl) (.cons (.t rfl) (.cons (.t rfl) (.cons (.t rfl) .nil)))) (en238)) rfl (insertion_nil _ _) ?_)))))))))))))))))
 rintro _ w2 ⟨rfl, uw2⟩
 replace hW := hW.up uw2
 refine LW.T (CW.block (CW.loopB (σ := Unit) (fun s w => (True) ∧ (Up w0 w)) (fun s => [(6, .eq (vi 20))]) ([(0, .eq _), (1, .eq _), (2, .eq _)]) (fun s => 0) () ?_ ⟨rfl, rfl, rfl, rfl, trivial⟩ ?_))
 ·exact ⟨trivial, hW⟩
 rintro _ w3 ⟨ht, hW⟩
 refine CW.seq (CW.S (LW.M rfl (LW.M rfl (LW.pp (.fa (PEv.lss (.t rfl) (.t rfl)) cQ) (LW.T (CW.cond_false (.t rfl) (CW.exit (KW.then_exit (KW.then_exit (KW.block_hit (KW.end0 rfl ⟨_, rfl, ?_⟩)))))))))))
 exact ⟨rfl, hW⟩
theorem stableFunc_nil (fv : Go.Value) (w : World) : Ret prog 135 #[.slice none 0 0, fv] w fun r w' => r = .tuple #[] ∧ Up w w' := by
 have hW := Up.refl w
 obtain ⟨w0, rfl⟩ : ∃ w0, w0 = w := ⟨_, rfl⟩
 refine cS (n := 9) (m := 9) func135 rfl rfl rfl (CW.region (LW.M rfl (LW.M rfl (LW.pp (.lenS underlying26 (.t rfl)) (LW.M rfl (LW.K (eC (.cons (.t rfl) (.cons (.t rfl) (.cons (.t rfl) .nil))) (en211)) rfl (stable_nil _ _) ?_))))))
 rintro _ w1 ⟨rfl, uw1⟩
 replace hW := hW.up uw1
 refine LW.nil (KW.end0 rfl ⟨_, rfl, ?_⟩)
 exact ⟨rfl, hW⟩
theorem sorted_nil (of : Nat) (w : World) : Ret prog 66 #[.slice none 0 0, .func (.func of) #[] #[]] w fun r w' => r = .tuple #[] ∧ Up w w' := by
 have hW := Up.refl w
 obtain ⟨w0, rfl⟩ : ∃ w0, w0 = w := ⟨_, rfl⟩
 refine cS (n := 7) (m := 9) func66 rfl rfl rfl (CW.S (LW.rr (.box1 (.t rfl) rfl) rfl ?_))
 rintro _ w1 ⟨B3, rfl, NB3⟩
 replace hW := hW.up NB3.up
 have hB3 := NB3.blk
 refine LW.T (CW.region (LW.M rfl (LW.pp (.makeFunc (.cons (.t rfl) .nil)) (LW.K (eC (.u rfl rfl) (en135)) rfl (stableFunc_nil _ _) ?_))))
 rintro _ w2 ⟨rfl, uw2⟩
 replace hW := hW.up uw2
 replace hB3 := hB3.up uw2
 refine LW.nil (KW.end0 rfl ⟨_, rfl, ?_⟩)
 exact ⟨rfl, hW⟩
theorem sorted_some (of : Nat) (key : Fact → K2) (hen : ∀ args w, (callFunc of args).run prog w = .ok (.enter of args) w) (hord : ∀ W x, Ret prog of #[.agg x.cells] W fun r W' => r = .agg #[vi (key x).1, vi (key x).2] ∧ Up W W') (g m cp : Nat) (xs : List Fact) (w : World) (ho : OwnS w 0 24 19 Fact.cells (.slice (some ⟨g, 0, none⟩) m cp) xs) (h63 : m ≤ 1000000000) : Ret prog 66 #[.slice (some ⟨g, 0, none⟩) m cp, .func (.func of) #[] #[]] w fun r w' => r = .tuple #[] ∧ Stp (aOwn 24 19 Fact.cells (.slice (some ⟨g, 0, none⟩) m cp) (xs)) (aOwn 24 19 Fact.cells (.slice (some ⟨g, 0, none⟩) m cp) (sortK key xs)) w w' := by
 obtain ⟨w0, rfl⟩ : ∃ w0, w0 = w := ⟨_, rfl⟩
 have hS : Wx.Sep (aOwn 24 19 Fact.cells (.slice (some ⟨g, 0, none⟩) m cp) (xs)).foot w0 w0 [aOwn 24 19 Fact.cells (.slice (some ⟨g, 0, none⟩) m cp) (xs)] := Sep.cons ho (fun _ h => h) (Sep.start _ _) (by simp)
 refine cS (n := 7) (m := 9) func66 rfl rfl rfl (CW.S (LW.rr (.box1 (.t rfl) rfl) rfl ?_))
 rintro _ w1 ⟨B3, rfl, NB3⟩
 have eB3 := NB3.at_
 have zB3 := NB3.size
 replace hS := hS.addB NB3
 refine LW.T ?_
 have hB3 := NB3.blk
 have hg := ho.lt g rfl
 replace hS : Wx.Sep (aOwn 24 19 Fact.cells (.slice (some ⟨g, 0, none⟩) m cp) (xs)).foot w0 w1 [aOwn 24 19 Fact.cells (.slice (some ⟨g, 0, none⟩) m cp) (xs)] := hS.take 1
 refine CW.region (LW.M rfl (LW.pp (.makeFunc (.cons (.t rfl) .nil)) (LW.K (eC (.u rfl rfl) (en135)) rfl (stableFunc_any 136 #[.pointer (some ⟨B3, 0, none⟩)] key en136 g m cp xs _ (hS.own 0 rfl) h63 (fun W hF x y => order_cmp of key hen hord x y B3 W (hB3.fr hF (fun (e : some g = some B3) => by cases e; omega)))) ?_)))
 rintro _ w2 ⟨rfl, zs, hz, uw2⟩
 replace hS := hS.stp 0 rfl uw2
 refine LW.nil (KW.end0 rfl ⟨_, rfl, ?_⟩)
 rw [hz.eq] at hS
 exact ⟨rfl, ⟨hS.fr, hS.get 0 rfl, fun _ h => .inl h⟩⟩
theorem sorted_any (of : Nat) (key : Fact → K2) (hen : ∀ args w, (callFunc of args).run prog w = .ok (.enter of args) w) (hord : ∀ W x, Ret prog of #[.agg x.cells] W fun r W' => r = .agg #[vi (key x).1, vi (key x).2] ∧ Up W W') (v : Go.Value) (xs : List Fact) (w : World) (ho : OwnS w 0 24 19 Fact.cells v xs) (h63 : xs.length ≤ 1000000000) : Ret prog 66 #[v, .func (.func of) #[] #[]] w fun r w' => r = .tuple #[] ∧ Stp (aOwn 24 19 Fact.cells v xs) (aOwn 24 19 Fact.cells v (sortK key xs)) w w' := by
 have h0 := ho
 obtain ⟨_, ⟨rfl, hn⟩ | ⟨g, cap, cur, rfl, _⟩⟩ := h0
 · have hx : xs = [] := List.eq_nil_of_length_eq_zero hn
   subst hx
   exact (sorted_nil of w).mono fun r w' ⟨e, u⟩ => ⟨e, (Stp.refl ho).up u⟩
 exact sorted_some of key hen hord g xs.length cap xs w ho h63
end Go.Proofs.YtbbpkdlehlamlaaGreatDoor
end
section
namespace Go.Wx
open Go.RowKit
section
variable {P : Program} {n : Nat} {ds : List Deferred} {l : Env} {w : World} {d : Option Tmp} {ty : TypeId} {ps : String} {af : Array Edge} {g : Option (Nat × Bool)}
theorem PEv.buildArr {T e k size : Nat} {z cs : Array Value} {xs : Array (Nat × Operand)} {vs : List (Nat × Value)} (hu : P.underlying T = some (.array k e)) (hz : ∀ w, (zeroValue T).run P w = .ok (.agg z) w) (hs : ∀ w, (sizeOf e).run P w = .ok size w)
   (hv : Parts l xs.toList vs) (hf : Instr.fill (fun i => some (i * size, size)) z vs = some cs) : PEv P n ds l w ⟨d, .build T xs, ty, ps, af, g⟩ (.agg cs) := fun a w' ha _ => by
 refine run_v ?_
 have e : (xs.map fun (i, x) => (i, a.eval x)) = vs.toArray := by apply Array.ext'; rw [← hv.map ha]; simp
 rw [e]
 simp only [Instr.build, Sem.run_bind, hz, Result.andThen, run_underlying hu, hs, Value.cells, hf]
 rfl
end
def keyT (f : Int → Value) (i : Nat) : List (Int × Value) := (List.range i).map fun j => (((j + 1 : Nat) : Int), f ((j + 1 : Nat) : Int))
theorem keyT_mem {f : Int → Value} {i : Nat} {k : Int} {v : Value} : (k, v) ∈ keyT f i ↔ 1 ≤ k ∧ k ≤ i ∧ v = f k := by
 unfold keyT
 rw [List.mem_map]
 constructor
 · rintro ⟨j, hj, e⟩
   have := List.mem_range.1 hj
   cases e
   exact ⟨by omega, by omega, rfl⟩
 rintro ⟨h1, h2, rfl⟩
 refine ⟨(k - 1).toNat, List.mem_range.2 oQ, ?_⟩
 have : (((k - 1).toNat + 1 : Nat) : Int) = k := by omega
 rw [this]
theorem keyT_keys {f : Int → Value} {i : Nat} {k : Int} : k ∈ (keyT f i).map (·.1) ↔ 1 ≤ k ∧ k ≤ i := by
 rw [List.mem_map]
 constructor
 · rintro ⟨⟨k', v⟩, h, rfl⟩
   have := keyT_mem.1 h
   exact ⟨this.1, this.2.1⟩
 rintro ⟨h1, h2⟩
 exact ⟨(k, f k), keyT_mem.2 ⟨h1, h2, rfl⟩, rfl⟩
theorem keyT_next (f : Int → Value) (i : Nat) : mset (keyT f i) ((i + 1 : Nat) : Int) (f ((i + 1 : Nat) : Int)) = keyT f (i + 1) := by
 rw [mset_new (fun h => by have := keyT_keys.1 h; omega)]
 simp [keyT, List.range_succ]
end Go.Wx
end
section
namespace Go.Wx.Ms
open Go.RowKit Go.MapKept Go.Wx
open Go.ChangeMaps (setBlock)
def vs (s : List UInt8) : Value := .string ⟨s.toArray⟩
def kvI (p : List UInt8 × Value) : Value × Value := (vs p.1, p.2)
def IMap (w : World) (b : Nat) (kv : List (List UInt8 × Value)) : Prop :=
 ∃ es clock, w.heap[b]? = some (.map es clock) ∧ Stamped es clock ∧ es.toList.map kvOf = kv.map kvI
theorem IMap.lt {w : World} {b : Nat} {kv : List (List UInt8 × Value)} (h : IMap w b kv) : b < w.heap.size := let ⟨_, _, h1, _⟩ := h; lt_of_block h1
theorem IMap.up {w w' : World} {b : Nat} {kv : List (List UInt8 × Value)} (h : IMap w b kv) (u : Up w w') : IMap w' b kv := by
 have := h.lt
 obtain ⟨es, clock, h1, h2⟩ := h
 exact ⟨es, clock, (u.block this).trans h1, h2⟩
theorem IMap.sto {w w' : World} {b B : Nat} {kv : List (List UInt8 × Value)} (h : IMap w b kv) (k : Sto B w w') (hne : b ≠ B) : IMap w' b kv := by
 have := h.lt
 obtain ⟨es, clock, h1, h2⟩ := h
 exact ⟨es, clock, (k.block b this hne).trans h1, h2⟩
theorem keys_int {es : Array MapEntry} {kv : List (List UInt8 × Value)} (h : es.toList.map kvOf = kv.map kvI) : ∀ x ∈ es.toList, ∃ k, x.key = vs k ∧ (k, x.val) ∈ kv := by
 intro x hx
 have h1 : kvOf x ∈ kv.map kvI := by rw [← h]; exact List.mem_map.2 ⟨x, hx, rfl⟩
 obtain ⟨p, hp, he⟩ := List.mem_map.1 h1
 have e1 : vs p.1 = x.key := congrArg Prod.fst he
 have e2 : p.2 = x.val := congrArg Prod.snd he
 exact ⟨p.1, e1.symm, by rw [← e2]; exact hp⟩
theorem key_entry {es : Array MapEntry} {kv : List (List UInt8 × Value)} (h : es.toList.map kvOf = kv.map kvI) {p : List UInt8 × Value} (hp : p ∈ kv) : ∃ x ∈ es.toList, x.key = vs p.1 ∧ x.val = p.2 := by
 have h1 : kvI p ∈ es.toList.map kvOf := by rw [h]; exact List.mem_map.2 ⟨p, hp, rfl⟩
 obtain ⟨x, hx, he⟩ := List.mem_map.1 h1
 exact ⟨x, hx, congrArg Prod.fst he, congrArg Prod.snd he⟩
theorem vs_inj {a b : List UInt8} (h : vs a = vs b) : a = b := by
 have h1 : (⟨a.toArray⟩ : ByteArray) = ⟨b.toArray⟩ := by injection h
 have h2 : a.toArray = b.toArray := congrArg ByteArray.data h1
 simpa using h2
theorem keys_nodup {es : Array MapEntry} {clock : Nat} {kv : List (List UInt8 × Value)} (hs : Stamped es clock) (h : es.toList.map kvOf = kv.map kvI) : (kv.map (·.1)).Nodup := by
 have h1 : es.toList.map (·.key) = (kv.map (·.1)).map vs := by
   have := congrArg (List.map Prod.fst) h
   simpa [List.map_map, Function.comp_def, kvOf, kvI] using this
 have h2 := hs.2.2
 rw [h1] at h2
 exact List.Pairwise.of_map vs (fun a b hab e => hab (by rw [e])) h2
def mset (kv : List (List UInt8 × Value)) (k : List UInt8) (v : Value) : List (List UInt8 × Value) := if k ∈ kv.map (·.1) then kv.map (fun p => if p.1 = k then (k, v) else p) else kv ++ [(k, v)]
theorem modify_set {es : Array MapEntry} {clock : Nat} {kv : List (List UInt8 × Value)} (hs : Stamped es clock) (h : es.toList.map kvOf = kv.map kvI) {j : Nat} {e : MapEntry} {k : List UInt8} {v : Value} (hj : es[j]? = some e) (hk : e.key = vs k) :
   (es.modify j fun e => { e with key := vs k, val := v }).toList.map kvOf = (mset kv k v).map kvI := by
 have hn := keys_nodup hs h
 have hat : ∀ i : Nat, (es.toList.map kvOf)[i]? = (kv.map kvI)[i]? := fun i => by rw [h]
 simp only [List.getElem?_map, Array.getElem?_toList] at hat
 have hkj : ∃ p, kv[j]? = some p ∧ p.1 = k := by
   have := hat j
   rw [hj] at this
   cases hp : kv[j]? with
   | none => rw [hp] at this; cases this
   | some p =>
     rw [hp] at this
     have h1 : kvOf e = kvI p := by simpa using this
     have h2 : e.key = vs p.1 := congrArg Prod.fst h1
     exact ⟨p, rfl, vs_inj (h2.symm.trans hk)⟩
 obtain ⟨p, hp, hpk⟩ := hkj
 have hmem : k ∈ kv.map (·.1) := List.mem_map.2 ⟨p, List.mem_of_getElem? hp, hpk⟩
 rw [mset, if_pos hmem]
 apply List.ext_getElem?
 intro i
 simp only [List.getElem?_map, Array.getElem?_toList, Array.getElem?_modify]
 by_cases hij : j = i
 · subst hij
   rw [if_pos rfl, hj, hp]
   simp [kvOf, kvI, hpk]
 rw [if_neg hij, hat i]
 cases hq : kv[i]? with
 | none => rfl
 | some q =>
   have hne : q.1 ≠ k := fun e' => by
     have h1 : (kv.map (·.1))[i]? = some k := by simp [hq, e']
     have h2 : (kv.map (·.1))[j]? = some k := by simp [hp, hpk]
     obtain ⟨hi, h3⟩ := gQ.1 h1
     obtain ⟨hj', h4⟩ := gQ.1 h2
     exact hij ((List.getElem_inj hn).1 (h4.trans h3.symm))
   simp [hne]
theorem isKey_all {es : Array MapEntry} {kv : List (List UInt8 × Value)} (h : es.toList.map kvOf = kv.map kvI) : ∀ x ∈ es.toList, IsKey .string x.key := fun x hx => by
 obtain ⟨k, hk, _⟩ := keys_int h x hx
 rw [hk]; trivial
section
variable {P : Program} {n : Nat} {ds : List Deferred} {l : Env} {w : World} {d : Option Tmp} {ty : TypeId} {ps : String} {af : Array Edge} {g : Option (Nat × Bool)}
theorem SEv.mapUpdate {T K E : TypeId} {m x y : Operand} {b : Nat} {k : List UInt8} {v : Value} {kv : List (List UInt8 × Value)} (hT : P.underlying T = some (.map K E)) (hK : P.underlying K = some .string) (hm : Val l m (.map (some b))) (hx : Val l x (vs k)) (hy : Val l y v) (h : IMap w b kv) :
   SEv P n ds l w ⟨none, .mapUpdate T m x y, ty, ps, af, g⟩ (fun w' => IMap w' b (mset kv k v) ∧ Sto b w w' ∧ w'.heap.size = w.heap.size) := fun a ha => by
 obtain ⟨es, clock, hb, hs, he⟩ := h
 have hk : IsKey .string (vs k) := trivial
 have fin : ∀ o : Obj, Sto b w { w with heap := w.heap.setIfInBounds b o } := fun o => ⟨rfl, rfl, rfl, by simp, fun i _ hne => (heap_set hb).2 i hne⟩
 rcases findNow_spec hk es.toList 0 (isKey_all he) with ⟨h1, h2⟩ | ⟨j, e, h1, h2, h3⟩
 · refine ⟨_, run_u (w' := { w with heap := w.heap.setIfInBounds b (.map (es.push { key := vs k, val := v, born := clock }) (clock + 1)) }) ?_, ⟨_, _, (heap_set hb).1, stamped_push hs h2, ?_⟩, fin _, by simp⟩
   · rw [ha.ev hm, ha.ev hx, ha.ev hy]
     simp [Instr.mapUpdate, run_underlying hT, MapKept.run_getObj_map hb, MapKept.run_checkKey hK hk, MapKept.run_findKey hK h1, MapKept.run_setObj_map _ hb, Result.andThen]
   have hni : k ∉ kv.map (·.1) := fun hmem => by
     obtain ⟨p, hp, hpk⟩ := List.mem_map.1 hmem
     obtain ⟨x', hx', hkx, _⟩ := key_entry he hp
     exact h2 x' hx' (by rw [hkx, hpk])
   rw [mset, if_neg hni]
   simp [he, kvOf, kvI]
 have hj : es[j]? = some e := by simpa using h2
 have hkey : ∀ e', es[j]? = some e' → ({ e' with key := vs k, val := v } : MapEntry).key = e'.key := fun e' he' => by rw [hj] at he'; cases he'; exact h3.symm
 refine ⟨_, run_u (w' := { w with heap := w.heap.setIfInBounds b (.map (es.modify j fun e => { e with key := vs k, val := v }) clock) }) ?_, ⟨_, _, (heap_set hb).1, stamped_modify hs _ _ (fun _ _ => rfl) (fun e' _ he' => hkey e' he'), modify_set hs he hj h3⟩, fin _, by simp⟩
 rw [ha.ev hm, ha.ev hx, ha.ev hy]
 simp [Instr.mapUpdate, run_underlying hT, MapKept.run_getObj_map hb, MapKept.run_checkKey hK hk, MapKept.run_findKey hK h1, hj, h3, run_keyThatStays hk, MapKept.run_setObj_map _ hb, Result.andThen]
theorem REv.makeMap {T : TypeId} : REv P n ds l w ⟨d, .makeMap T none, ty, ps, af, g⟩ (fun v w' => ∃ b, v = .map (some b) ∧ IMap w' b [] ∧ Up w w' ∧ b = w.heap.size ∧ w'.heap.size = b + 1) := fun a ha => by
 refine ⟨_, _, run_v (v := .map (some w.heap.size)) (w' := w.alloc (.map #[] 0)) ?_, _, rfl, ⟨_, _, (heap_alloc w _).1, stamped_empty 0, rfl⟩, Up.alloc w _, rfl, by simp⟩
 simp [Instr.makeMap, Result.andThen]
def IRng (w : World) (b r : Nat) (kv : List (List UInt8 × Value)) (done : List (List UInt8)) : Prop :=
 ∃ es clock since seen c0, w.heap[b]? = some (.map es clock) ∧ Stamped es clock ∧ es.toList.map kvOf = kv.map kvI ∧ w.heap[r]? = some (.mapIter (some b) since seen c0) ∧ (∀ x ∈ es.toList, x.born < since) ∧ since ≤ c0 ∧ since ≤ clock ∧
   (∀ x ∈ es.toList, ∀ k, x.key = vs k → (seen.contains x.born = true ↔ k ∈ done)) ∧ done.Nodup ∧ ∀ k ∈ done, k ∈ kv.map (·.1)
theorem IRng.up {w w' : World} {b r : Nat} {kv : List (List UInt8 × Value)} {done : List (List UInt8)} (h : IRng w b r kv done) (u : Up w w') : IRng w' b r kv done := by
 obtain ⟨es, clock, since, seen, c0, h1, h2, h3, h4, h5⟩ := h
 exact ⟨es, clock, since, seen, c0, (u.block (lt_of_block h1)).trans h1, h2, h3, (u.block (lt_of_block h4)).trans h4, h5⟩
theorem IRng.length {w : World} {b r : Nat} {kv : List (List UInt8 × Value)} {done : List (List UInt8)} (h : IRng w b r kv done) : done.length ≤ kv.length := by
 obtain ⟨es, clock, since, seen, c0, h1, h2, h3, h4, h5, h6, h7, h8, h9, h10⟩ := h
 have := h9.length_le_of_subset h10
 simpa using this
theorem IRng.kx {bq : Nat} {X Y : Nat → Prop} {w w' : World} {b r : Nat} {kv : List (List UInt8 × Value)} {done : List (List UInt8)} (h : IRng w b r kv done) (k : Kx bq X Y w w') (hb : ¬ Y b) (hr : ¬ Y r) : IRng w' b r kv done := by
 obtain ⟨es, clock, since, seen, c0, h1, h2, h3, h4, h5⟩ := h
 exact ⟨es, clock, since, seen, c0, k.same b _ h1 (.inr ⟨rfl, hb, .inr rfl⟩), h2, h3, k.same r _ h4 (.inr ⟨rfl, hr, .inr rfl⟩), h5⟩
theorem REv.range {T K E : TypeId} {m : Operand} {b : Nat} {kv : List (List UInt8 × Value)} (hT : P.underlying T = some (.map K E)) (hm : Val l m (.map (some b))) (h : IMap w b kv) :
   REv P n ds l w ⟨d, .range T m, ty, ps, af, g⟩ (fun v w' => ∃ r, v = .pointer (some ⟨r, 0, none⟩) ∧ IRng w' b r kv [] ∧ Up w w' ∧ r = w.heap.size ∧ w'.heap.size = r + 1) := fun a ha => by
 obtain ⟨es, clock, hb, hs, he⟩ := h
 refine ⟨_, _, run_v (v := .pointer (some ⟨w.heap.size, 0, none⟩)) (w' := w.alloc (.mapIter (some b) clock #[] clock)) ?_, _, rfl, ⟨es, clock, clock, #[], clock, ((heap_alloc w _).2 b (lt_of_block hb)).trans hb, hs, he, (heap_alloc w _).1, hs.1, Nat.le_refl _, Nat.le_refl _, ?_, List.nodup_nil, by simp⟩, Up.alloc w _, rfl, by simp⟩
 · rw [ha.ev hm]; exact run_range_map w T K E b es clock hT hb
 intro x _ k _; simp
theorem next_of {b r : Nat} {kv : List (List UInt8 × Value)} {done : List (List UInt8)} (ty : TypeId) (h : IRng w b r kv done) :
   ((Instr.next (.pointer (some ⟨r, 0, none⟩)) false ty).run P w = .ok (.tuple #[.bool false]) w ∧ done.Perm (kv.map (·.1))) ∨
   ∃ k u w', (Instr.next (.pointer (some ⟨r, 0, none⟩)) false ty).run P w = .ok (.tuple #[.bool true, vs k, u]) w' ∧ (k, u) ∈ kv ∧ k ∉ done ∧ IRng w' b r kv (done ++ [k]) ∧ w.grownBy w' (some r) ∧ w'.heap.size = w.heap.size ∧ (Instr.entry (.pointer (some ⟨r, 0, none⟩))).run P w' = .ok (.tuple #[vs k, u]) w' ∧ Sto r w w' ∧ ∃ o : Obj, w.heap[r]? = some o ∧ o.isWalk = true := by
 obtain ⟨es, clock, since, seen, c0, hb, hs, he, hr, hold, hsc, hsk, hd, hdn, hdk⟩ := h
 have hne : b ≠ r := fun e => by rw [e, hr] at hb; cases hb
 have hst := (stamped_iff es clock).1 hs
 rcases run_next_at (P := P) w ty r b since c0 seen es clock hr hb hold hsc with ⟨h0, hrun⟩ | ⟨e, hel, w1, hal, hrun⟩
 · refine .inl ⟨hrun, (List.perm_ext_iff_of_nodup hdn (keys_nodup hs he)).2 fun k => ⟨hdk k, fun hk => ?_⟩⟩
   obtain ⟨p, hp, rfl⟩ := List.mem_map.1 hk
   obtain ⟨x, hx, hxk, _⟩ := key_entry he hp
   exact (hd x hx _ hxk).1 (all_seen es seen h0 x hx)
 obtain ⟨hem, hes⟩ := mem_left hel
 obtain ⟨k, hk, hkv⟩ := keys_int he e hem
 have hr1 : w1.heap[r]? = some (.mapIter (some b) since seen c0) := by rcases hal with rfl | rfl <;> exact hr
 have hb1 : w1.heap[b]? = some (.map es clock) := by rcases hal with rfl | rfl <;> exact hb
 have hset := heap_set (o' := .mapIter (some b) since (seen.push e.born) clock) hr1
 have hb' : (setBlock w1 r (.mapIter (some b) since (seen.push e.born) clock)).heap[b]? = some (.map es clock) := (hset.2 b hne).trans hb1
 have hnd : k ∉ done := fun hm => by have := (hd e hem k hk).2 hm; rw [hes] at this; cases this
 have hgr : w.grownBy (setBlock w1 r (.mapIter (some b) since (seen.push e.born) clock)) (some r) := by rcases hal with rfl | rfl <;> exact ⟨rfl, rfl, rfl, by simp [setBlock], fun i _ hi => hset.2 i (fun e1 => hi (by rw [e1]))⟩
 refine .inr ⟨k, e.val, _, by rw [hrun, hk], hkv, hnd, ⟨es, clock, since, seen.push e.born, clock, hb', hs, he, hset.1, hold, hsk, hsk, fun x hx k' hk' => ?_, ?_, fun k' hk' => ?_⟩, hgr, ?_, ?_, ⟨hgr.os, hgr.tape, hgr.output, hgr.size, fun i hi hne => hgr.block i hi (fun e => hne (by cases e; rfl))⟩, _, hr, rfl⟩
 · rw [contains_push, Bool.or_eq_true, hd x hx k' hk', List.mem_append, List.mem_singleton]
   refine or_congr Iff.rfl ⟨fun h1 => ?_, fun h1 => ?_⟩
   · have h2 : x.born = e.born := by simpa using h1
     have h3 := born_inj hst.2.1 hx hem h2
     rw [h3, hk] at hk'
     exact (vs_inj hk').symm
   subst h1
   have := entry_eq_of_key' hst.2.2 hx hem (hk'.trans hk.symm)
   rw [this]; simp
 · exact List.nodup_append.2 ⟨hdn, by simp, fun a ha c hc => by simp at hc; subst hc; exact fun e' => hnd (e' ▸ ha)⟩
 · rcases List.mem_append.1 hk' with h1 | h1
   · exact hdk k' h1
   simp at h1; subst h1; exact List.mem_map.2 ⟨_, hkv, rfl⟩
 · rcases hal with rfl | rfl <;> simp [setBlock]
 rw [← hk]; exact run_entry_at _ r b since seen es clock e hset.1 hb' hem hst.2.1
structure NextTo (P : Program) (w w' : World) (b r : Nat) (kv : List (List UInt8 × Value)) (done : List (List UInt8)) (k : List UInt8) (u : Value) : Prop where
 mem : (k, u) ∈ kv
 fresh : k ∉ done
 rng : IRng w' b r kv (done ++ [k])
 grown : w.grownBy w' (some r)
 size : w'.heap.size = w.heap.size
 entry : (Instr.entry (.pointer (some ⟨r, 0, none⟩))).run P w' = .ok (.tuple #[vs k, u]) w'
 sto : Sto r w w'
 walk : ∃ o : Obj, w.heap[r]? = some o ∧ o.isWalk = true
theorem REv.next {it : Operand} {b r : Nat} {kv : List (List UInt8 × Value)} {done : List (List UInt8)} (hx : Val l it (.pointer (some ⟨r, 0, none⟩))) (h : IRng w b r kv done) :
   REv P n ds l w ⟨d, .next it false, ty, ps, af, g⟩ (fun v w' => (v = .tuple #[.bool false] ∧ w' = w ∧ done.Perm (kv.map (·.1))) ∨ ∃ k u, v = .tuple #[.bool true, vs k, u] ∧ NextTo P w w' b r kv done k u) := fun a ha => by
 rcases next_of (P := P) ty h with ⟨h1, h2⟩ | ⟨k, u, w', h1, h2, h3, h4, h5, h6, h7, h8, h9⟩
 · exact ⟨_, _, run_v (by rw [ha.ev hx]; exact h1), .inl ⟨rfl, rfl, h2⟩⟩
 exact ⟨_, _, run_v (by rw [ha.ev hx]; exact h1), .inr ⟨k, u, rfl, h2, h3, h4, h5, h6, h7, h8, h9⟩⟩
theorem REv.entry {it : Operand} {r : Nat} {t : Value} (hx : Val l it (.pointer (some ⟨r, 0, none⟩))) (h : (Instr.entry (.pointer (some ⟨r, 0, none⟩))).run P w = .ok t w) :
 REv P n ds l w ⟨d, .entry it, ty, ps, af, g⟩ (fun v w' => v = t ∧ w' = w) := fun a ha => ⟨_, _, run_v (by rw [ha.ev hx]; exact h), rfl, rfl⟩
theorem PEv.lookupYes {d : Option Tmp} {ty : TypeId} {ps : String} {af : Array Edge} {g : Option (Nat × Bool)} {T K E : TypeId} {mo x : Operand} {b : Nat} {k : List UInt8} {v : Value} {kv : List (List UInt8 × Value)} {ok : Bool} (hT : P.underlying T = some (.map K E)) (hK : P.underlying K = some .string) (hm : Val l mo (.map (some b))) (hx : Val l x (vs k)) (h : IMap w b kv) (hkv : (k, v) ∈ kv) :
   PEv P n ds l w ⟨d, .lookup T mo x ok, ty, ps, af, g⟩ (if ok then .tuple #[v, .bool true] else v) := fun a w' ha hu => by
 obtain ⟨es, clock, hb, hs, he⟩ := h.up hu
 have hk : IsKey .string (vs k) := trivial
 refine run_v ?_
 rw [ha.ev hm, ha.ev hx]
 rcases findNow_spec hk es.toList 0 (isKey_all he) with ⟨h1, h2⟩ | ⟨j, e, h1, h2, h3⟩
 · exfalso
   obtain ⟨x', hx', hkx, _⟩ := key_entry he hkv
   exact h2 x' hx' hkx
 obtain ⟨x', hx', hkx, hvx⟩ := key_entry he hkv
 have hv : e.val = v := by
   have := entry_eq_of_key' (List.pairwise_map.1 hs.2.2) (List.mem_of_getElem? h2) hx' (by rw [h3, hkx])
   rw [this]; exact hvx
 cases ok <;> simp [Instr.lookup, run_underlying hT, MapKept.run_getObj_map hb, MapKept.run_checkKey hK hk, MapKept.run_findKey hK h1, Result.andThen, hv]
theorem PEv.lookupNo {d : Option Tmp} {ty : TypeId} {ps : String} {af : Array Edge} {g : Option (Nat × Bool)} {T K E : TypeId} {mo x : Operand} {b : Nat} {k : List UInt8} {z : Value} {kv : List (List UInt8 × Value)} {ok : Bool} (hT : P.underlying T = some (.map K E)) (hK : P.underlying K = some .string) (hz : ∀ w, (zeroValue E).run P w = .ok z w) (hm : Val l mo (.map (some b))) (hx : Val l x (vs k)) (h : IMap w b kv) (hkv : k ∉ kv.map (·.1)) :
   PEv P n ds l w ⟨d, .lookup T mo x ok, ty, ps, af, g⟩ (if ok then .tuple #[z, .bool false] else z) := fun a w' ha hu => by
 obtain ⟨es, clock, hb, hs, he⟩ := h.up hu
 have hk : IsKey .string (vs k) := trivial
 refine run_v ?_
 rw [ha.ev hm, ha.ev hx]
 rcases findNow_spec hk es.toList 0 (isKey_all he) with ⟨h1, h2⟩ | ⟨j, e, h1, h2, h3⟩
 · cases ok <;> simp [Instr.lookup, run_underlying hT, MapKept.run_getObj_map hb, MapKept.run_checkKey hK hk, MapKept.run_findKey hK h1, Result.andThen, hz]
 exfalso
 obtain ⟨k', hk', hkv'⟩ := keys_int he e (List.mem_of_getElem? h2)
 have : k' = k := vs_inj (hk'.symm.trans h3)
 exact hkv (List.mem_map.2 ⟨_, hkv', this⟩)
end
end Go.Wx.Ms
end
section
namespace Go.Wx
open Go.RowKit
def aIMap (b : Nat) (kv : List (Int × Value)) : Asr := ⟨(· = b), fun w => IMap w b kv, fun _ _ h k _ => by
 have := h.lt
 obtain ⟨es, clock, h1, h2⟩ := h
 exact ⟨es, clock, (k b rfl this).trans h1, h2⟩, fun _ h _ e => by rw [e]; exact h.lt⟩
def aIRng (b r : Nat) (kv : List (Int × Value)) (done : List Int) : Asr := ⟨fun i => i = b ∨ i = r, fun w => IRng w b r kv done, fun _ _ h k _ => by
 obtain ⟨es, clock, since, seen, c0, h1, h2, h3, h4, h5⟩ := h
 exact ⟨es, clock, since, seen, c0, (k b (.inl rfl) (lt_of_block h1)).trans h1, h2, h3, (k r (.inr rfl) (lt_of_block h4)).trans h4, h5⟩, fun _ h i e => by
 obtain ⟨es, clock, since, seen, c0, h1, h2, h3, h4, h5⟩ := h
 rcases e with rfl | rfl
 · exact lt_of_block h1
 exact lt_of_block h4⟩
theorem stp_range {b r : Nat} {kv : List (Int × Value)} {w w' : World} (h : IRng w' b r kv []) (u : Up w w') (hr : r = w.heap.size) : Stp (aIMap b kv) (aIRng b r kv []) w w' := ⟨u.fr _, h, fun i hi => hi.elim (fun e => .inl e) (fun e => .inr oQ)⟩
theorem stp_next {P : Program} {b r : Nat} {kv : List (Int × Value)} {done : List Int} {k : Int} {u : Value} {w w' : World} (h : NextTo P w w' b r kv done k u) : Stp (aIRng b r kv done) (aIRng b r kv (done ++ [k])) w w' := ⟨h.sto.fr.mono (fun i (e : i = r) => .inr e), h.rng, fun _ h => .inl h⟩
namespace Ms
def aIMap (b : Nat) (kv : List (List UInt8 × Value)) : Asr := ⟨(· = b), fun w => Ms.IMap w b kv, fun _ _ h k _ => by
 have := h.lt
 obtain ⟨es, clock, h1, h2⟩ := h
 exact ⟨es, clock, (k b rfl this).trans h1, h2⟩, fun _ h _ e => by rw [e]; exact h.lt⟩
def aIRng (b r : Nat) (kv : List (List UInt8 × Value)) (done : List (List UInt8)) : Asr := ⟨fun i => i = b ∨ i = r, fun w => Ms.IRng w b r kv done, fun _ _ h k _ => by
 obtain ⟨es, clock, since, seen, c0, h1, h2, h3, h4, h5⟩ := h
 exact ⟨es, clock, since, seen, c0, (k b (.inl rfl) (lt_of_block h1)).trans h1, h2, h3, (k r (.inr rfl) (lt_of_block h4)).trans h4, h5⟩, fun _ h i e => by
 obtain ⟨es, clock, since, seen, c0, h1, h2, h3, h4, h5⟩ := h
 rcases e with rfl | rfl
 · exact lt_of_block h1
 exact lt_of_block h4⟩
theorem stp_set {b : Nat} {kv kv' : List (List UInt8 × Value)} {w w' : World} (h : Ms.IMap w' b kv') (k : Sto b w w') : Stp (aIMap b kv) (aIMap b kv') w w' := ⟨k.fr, h, fun _ h => .inl h⟩
theorem stp_range {b r : Nat} {kv : List (List UInt8 × Value)} {w w' : World} (h : Ms.IRng w' b r kv []) (u : Up w w') (hr : r = w.heap.size) : Stp (aIMap b kv) (aIRng b r kv []) w w' := ⟨u.fr _, h, fun i hi => hi.elim (fun e => .inl e) (fun e => .inr oQ)⟩
theorem stp_next {P : Program} {b r : Nat} {kv : List (List UInt8 × Value)} {done : List (List UInt8)} {k : List UInt8} {u : Value} {w w' : World} (h : Ms.NextTo P w w' b r kv done k u) : Stp (aIRng b r kv done) (aIRng b r kv (done ++ [k])) w w' := ⟨h.sto.fr.mono (fun i (e : i = r) => .inr e), h.rng, fun _ h => .inl h⟩
end Ms
theorem aAnd_stp {As : List Asr} {A A' : Asr} {w w' : World} {j : Nat} (h : (aAnd As).holds w) (hj : As[j]? = some A) (s : Stp A A' w w') : Stp (aAnd As) (aAnd (As.set j A')) w w' := by
 have := (aAnd_open h).stp j hj s
 rw [← List.append_nil (As.set j A')] at this
 exact aAnd_close this
theorem zip_set' {α β : Type} (a : α) (b : β) : ∀ (l : List α) (r : List β) (j : Nat), (l.set j a).zip (r.set j b) = (l.zip r).set j (a, b)
 | [], r, j => by simp
 | x :: l, [], j => by cases j <;> simp
 | x :: l, y :: r, 0 => rfl
 | x :: l, y :: r, j + 1 => by
   rw [List.set_cons_succ, List.set_cons_succ, List.zip_cons_cons, List.zip_cons_cons, List.set_cons_succ, zip_set' a b l r j]
def lists {α : Type} (e k : Nat) (enc : α → Array Value) (vs : List Value) (xss : List (List α)) : List Asr := (vs.zip xss).map fun p => aOwn e k enc p.1 p.2
theorem lists_get {α : Type} {e k : Nat} {enc : α → Array Value} {vs : List Value} {xss : List (List α)} {j : Nat} {v : Value} {xs : List α} (hv : vs[j]? = some v) (hx : xss[j]? = some xs) : (lists e k enc vs xss)[j]? = some (aOwn e k enc v xs) := by
 unfold lists
 rw [List.getElem?_map]
 have : (vs.zip xss)[j]? = some (v, xs) := by rw [List.getElem?_zip_eq_some]; exact ⟨hv, hx⟩
 rw [this]; rfl
theorem lists_set {α : Type} {e k : Nat} {enc : α → Array Value} {vs : List Value} {xss : List (List α)} {j : Nat} {v : Value} {xs : List α} : (lists e k enc vs xss).set j (aOwn e k enc v xs) = lists e k enc (vs.set j v) (xss.set j xs) := by
 unfold lists
 have : (vs.set j v).zip (xss.set j xs) = (vs.zip xss).set j (v, xs) := zip_set' v xs vs xss j
 rw [this, List.map_set]
theorem lists_own {α : Type} {e k : Nat} {enc : α → Array Value} {vs : List Value} {xss : List (List α)} {w : World} {j : Nat} {v : Value} {xs : List α} (h : (aAnd (lists e k enc vs xss)).holds w) (hv : vs[j]? = some v) (hx : xss[j]? = some xs) : OwnS w 0 e k enc v xs := h.1 _ (List.mem_of_getElem? (lists_get hv hx))
theorem lists_one {α : Type} {e k : Nat} {enc : α → Array Value} {vs : List Value} {xss : List (List α)} {w : World} (h : (aAnd (lists e k enc vs xss)).holds w) (hl : vs.length = xss.length) : ∀ v ∈ vs, v.oneCell' = true := fun v hv => by
 obtain ⟨j, hj⟩ := List.mem_iff_getElem?.1 hv
 have hlt := (gQ.1 hj).1
 obtain ⟨xs, hx⟩ := getElem?_of_lt (xs := xss) (i := j) oQ
 exact (lists_own h hj hx).one
theorem lists_nil {α : Type} (e k : Nat) (enc : α → Array Value) (n : Nat) (w : World) : (aAnd (lists e k enc (List.replicate n (.slice none 0 0)) (List.replicate n ([] : List α)))).holds w ∧ ∀ i, ¬ (aAnd (lists e k enc (List.replicate n (.slice none 0 0)) (List.replicate n ([] : List α)))).foot i := by
 have key : ∀ A ∈ lists e k enc (List.replicate n (.slice none 0 0)) (List.replicate n ([] : List α)), A = aOwn e k enc (.slice none 0 0) [] := fun A hA => by
   unfold lists at hA
   obtain ⟨⟨v, xs⟩, hp, rfl⟩ := List.mem_map.1 hA
   have := List.of_mem_zip hp
   rw [List.eq_of_mem_replicate this.1, List.eq_of_mem_replicate this.2]
 refine ⟨⟨fun A hA => by rw [key A hA]; exact OwnS.nil _ _ _ _ _, List.pairwise_iff_getElem.2 fun i j hi hj _ x hx => by
   rw [key _ (List.getElem_mem hi)] at hx; cases hx⟩, fun i ⟨A, hA, hi⟩ => by rw [key A hA] at hi; cases hi⟩
end Go.Wx
end
section
namespace Go.Wx
def ordK (k : Int) (f : Fact) : K2 := match k with
 | 4 => (f.Wafer, f.Time)
 | 5 => (f.Product, 0)
 | 8 => (f.Other, f.Parties)
 | 10 => (f.Recipe, f.Time)
 | _ => (f.ID, 0)
end Go.Wx
namespace Go.Proofs.YtbbpkdlehlamlaaGreatDoor
open Go.Proofs.Tryz
open Go.Wx Go.RowKit
def listFn (k : Int) : Nat := match k with
 | 1 => 111
 | 2 => 113
 | 3 => 114
 | 4 => 115
 | 5 => 117
 | 6 => 119
 | 7 => 120
 | 8 => 121
 | 9 => 123
 | 10 => 124
 | 11 => 126
 | _ => 0
def ordFn (k : Int) : Nat := match k with
 | 1 => 112
 | 2 => 112
 | 3 => 112
 | 4 => 116
 | 5 => 118
 | 6 => 112
 | 7 => 112
 | 8 => 122
 | 9 => 112
 | 10 => 125
 | 11 => 112
 | _ => 0
def KdV (k : Int) : Go.Value := .agg #[.func (.func (listFn k)) #[] #[], .func (.func (ordFn k)) #[] #[]]
theorem list_1 (B : Nat) (w : World) : Ret prog 111 #[.pointer (some ⟨B, 0, none⟩)] w fun r w' => r = .pointer (some ⟨B, 0, none⟩) ∧ Up w w' := by
 have hW := Up.refl w
 refine cS (n := 6) (m := 9) func111 rfl rfl rfl (CW.S (LW.C (LW.S (CW.region (LW.M rfl (LW.pp (.nilCheck (.t rfl)) (LW.pp (.fA 0 underlying32 rfl sizeOf26 rfl) (LW.A rfl (LW.T (CW.ret (KW.ret1 rfl rfl ⟨_, rfl, ?_⟩)))))))))))
 exact ⟨rfl, hW⟩
theorem list_2 (B : Nat) (w : World) : Ret prog 113 #[.pointer (some ⟨B, 0, none⟩)] w fun r w' => r = .pointer (some ⟨B, 1, none⟩) ∧ Up w w' := by
 have hW := Up.refl w
 refine cS (n := 6) (m := 9) func113 rfl rfl rfl (CW.S (LW.C (LW.S (CW.region (LW.M rfl (LW.pp (.nilCheck (.t rfl)) (LW.pp (.fA 1 underlying32 rfl sizeOf26 rfl) (LW.A rfl (LW.T (CW.ret (KW.ret1 rfl rfl ⟨_, rfl, ?_⟩)))))))))))
 exact ⟨rfl, hW⟩
theorem list_3 (B : Nat) (w : World) : Ret prog 114 #[.pointer (some ⟨B, 0, none⟩)] w fun r w' => r = .pointer (some ⟨B, 2, none⟩) ∧ Up w w' := by
 have hW := Up.refl w
 refine cS (n := 6) (m := 9) func114 rfl rfl rfl (CW.S (LW.C (LW.S (CW.region (LW.M rfl (LW.pp (.nilCheck (.t rfl)) (LW.pp (.fA 2 underlying32 rfl sizeOf26 rfl) (LW.A rfl (LW.T (CW.ret (KW.ret1 rfl rfl ⟨_, rfl, ?_⟩)))))))))))
 exact ⟨rfl, hW⟩
theorem list_4 (B : Nat) (w : World) : Ret prog 115 #[.pointer (some ⟨B, 0, none⟩)] w fun r w' => r = .pointer (some ⟨B, 3, none⟩) ∧ Up w w' := by
 have hW := Up.refl w
 refine cS (n := 6) (m := 9) func115 rfl rfl rfl (CW.S (LW.C (LW.S (CW.region (LW.M rfl (LW.pp (.nilCheck (.t rfl)) (LW.pp (.fA 3 underlying32 rfl sizeOf26 rfl) (LW.A rfl (LW.T (CW.ret (KW.ret1 rfl rfl ⟨_, rfl, ?_⟩)))))))))))
 exact ⟨rfl, hW⟩
theorem list_5 (B : Nat) (w : World) : Ret prog 117 #[.pointer (some ⟨B, 0, none⟩)] w fun r w' => r = .pointer (some ⟨B, 4, none⟩) ∧ Up w w' := by
 have hW := Up.refl w
 refine cS (n := 6) (m := 9) func117 rfl rfl rfl (CW.S (LW.C (LW.S (CW.region (LW.M rfl (LW.pp (.nilCheck (.t rfl)) (LW.pp (.fA 4 underlying32 rfl sizeOf26 rfl) (LW.A rfl (LW.T (CW.ret (KW.ret1 rfl rfl ⟨_, rfl, ?_⟩)))))))))))
 exact ⟨rfl, hW⟩
theorem list_6 (B : Nat) (w : World) : Ret prog 119 #[.pointer (some ⟨B, 0, none⟩)] w fun r w' => r = .pointer (some ⟨B, 5, none⟩) ∧ Up w w' := by
 have hW := Up.refl w
 refine cS (n := 6) (m := 9) func119 rfl rfl rfl (CW.S (LW.C (LW.S (CW.region (LW.M rfl (LW.pp (.nilCheck (.t rfl)) (LW.pp (.fA 5 underlying32 rfl sizeOf26 rfl) (LW.A rfl (LW.T (CW.ret (KW.ret1 rfl rfl ⟨_, rfl, ?_⟩)))))))))))
 exact ⟨rfl, hW⟩
theorem list_7 (B : Nat) (w : World) : Ret prog 120 #[.pointer (some ⟨B, 0, none⟩)] w fun r w' => r = .pointer (some ⟨B, 6, none⟩) ∧ Up w w' := by
 have hW := Up.refl w
 refine cS (n := 6) (m := 9) func120 rfl rfl rfl (CW.S (LW.C (LW.S (CW.region (LW.M rfl (LW.pp (.nilCheck (.t rfl)) (LW.pp (.fA 6 underlying32 rfl sizeOf26 rfl) (LW.A rfl (LW.T (CW.ret (KW.ret1 rfl rfl ⟨_, rfl, ?_⟩)))))))))))
 exact ⟨rfl, hW⟩
theorem list_8 (B : Nat) (w : World) : Ret prog 121 #[.pointer (some ⟨B, 0, none⟩)] w fun r w' => r = .pointer (some ⟨B, 7, none⟩) ∧ Up w w' := by
 have hW := Up.refl w
 refine cS (n := 6) (m := 9) func121 rfl rfl rfl (CW.S (LW.C (LW.S (CW.region (LW.M rfl (LW.pp (.nilCheck (.t rfl)) (LW.pp (.fA 7 underlying32 rfl sizeOf26 rfl) (LW.A rfl (LW.T (CW.ret (KW.ret1 rfl rfl ⟨_, rfl, ?_⟩)))))))))))
 exact ⟨rfl, hW⟩
theorem list_9 (B : Nat) (w : World) : Ret prog 123 #[.pointer (some ⟨B, 0, none⟩)] w fun r w' => r = .pointer (some ⟨B, 8, none⟩) ∧ Up w w' := by
 have hW := Up.refl w
 refine cS (n := 6) (m := 9) func123 rfl rfl rfl (CW.S (LW.C (LW.S (CW.region (LW.M rfl (LW.pp (.nilCheck (.t rfl)) (LW.pp (.fA 8 underlying32 rfl sizeOf26 rfl) (LW.A rfl (LW.T (CW.ret (KW.ret1 rfl rfl ⟨_, rfl, ?_⟩)))))))))))
 exact ⟨rfl, hW⟩
theorem list_10 (B : Nat) (w : World) : Ret prog 124 #[.pointer (some ⟨B, 0, none⟩)] w fun r w' => r = .pointer (some ⟨B, 9, none⟩) ∧ Up w w' := by
 have hW := Up.refl w
 refine cS (n := 6) (m := 9) func124 rfl rfl rfl (CW.S (LW.C (LW.S (CW.region (LW.M rfl (LW.pp (.nilCheck (.t rfl)) (LW.pp (.fA 9 underlying32 rfl sizeOf26 rfl) (LW.A rfl (LW.T (CW.ret (KW.ret1 rfl rfl ⟨_, rfl, ?_⟩)))))))))))
 exact ⟨rfl, hW⟩
theorem list_11 (B : Nat) (w : World) : Ret prog 126 #[.pointer (some ⟨B, 0, none⟩)] w fun r w' => r = .pointer (some ⟨B, 10, none⟩) ∧ Up w w' := by
 have hW := Up.refl w
 refine cS (n := 6) (m := 9) func126 rfl rfl rfl (CW.S (LW.C (LW.S (CW.region (LW.M rfl (LW.pp (.nilCheck (.t rfl)) (LW.pp (.fA 10 underlying32 rfl sizeOf26 rfl) (LW.A rfl (LW.T (CW.ret (KW.ret1 rfl rfl ⟨_, rfl, ?_⟩)))))))))))
 exact ⟨rfl, hW⟩
theorem list_any (k : Int) (h1 : 1 ≤ k) (h2 : k ≤ 11) (B : Nat) (w : World) : Ret prog (listFn k) #[.pointer (some ⟨B, 0, none⟩)] w fun r w' => r = .pointer (some ⟨B, (k - 1).toNat, none⟩) ∧ Up w w' := by
 obtain rfl | rfl | rfl | rfl | rfl | rfl | rfl | rfl | rfl | rfl | rfl : k = 1 ∨ k = 2 ∨ k = 3 ∨ k = 4 ∨ k = 5 ∨ k = 6 ∨ k = 7 ∨ k = 8 ∨ k = 9 ∨ k = 10 ∨ k = 11 := by omega
 · exact list_1 B w
 · exact list_2 B w
 · exact list_3 B w
 · exact list_4 B w
 · exact list_5 B w
 · exact list_6 B w
 · exact list_7 B w
 · exact list_8 B w
 · exact list_9 B w
 · exact list_10 B w
 exact list_11 B w
theorem list_en (k : Int) (h1 : 1 ≤ k) (h2 : k ≤ 11) : ∀ (args : Array Go.Value) (w : World), (callFunc (listFn k) args).run prog w = .ok (.enter (listFn k) args) w := by
 obtain rfl | rfl | rfl | rfl | rfl | rfl | rfl | rfl | rfl | rfl | rfl : k = 1 ∨ k = 2 ∨ k = 3 ∨ k = 4 ∨ k = 5 ∨ k = 6 ∨ k = 7 ∨ k = 8 ∨ k = 9 ∨ k = 10 ∨ k = 11 := by omega
 · exact en111
 · exact en113
 · exact en114
 · exact en115
 · exact en117
 · exact en119
 · exact en120
 · exact en121
 · exact en123
 · exact en124
 exact en126
theorem ord_1 (x : Fact) (w : World) : Ret prog 112 #[.agg x.cells] w fun r w' => r = .agg #[vi (ordK 1 x).1, vi (ordK 1 x).2] ∧ Up w w' := by
 have hW := Up.refl w
 refine cS (n := 6) (m := 9) func112 rfl rfl rfl (CW.S (LW.rr (.boxA (.t rfl)) rfl ?_))
 rintro _ w1 ⟨B1, rfl, NB1⟩
 have eB1 := NB1.at_
 have zB1 := NB1.size
 replace hW := hW.up NB1.up
 have hB1 := NB1.blk
 refine LW.rr (.allocA zeroValue182) rfl ?_
 rintro _ w2 ⟨B2, rfl, NB2⟩
 have eB2 := NB2.at_
 replace hW := hW.up NB2.up
 replace hB1 := hB1.up NB2.up
 have hB2 := NB2.blk
 refine LW.S (CW.region (LW.pp (.fA 1 underlying24 rfl sizeOf3 rfl) (LW.pp (.ld isAgg3 rfl (hB1.celln rfl)) (LW.pp (.buildArr (cs := #[vi x.ID, vi 0]) underlying182 zeroValue182 sizeOf3 (.cons (.t rfl) (.cons (.const _) .nil)) rfl) (LW.E (.storeA sizeOf182 rfl (.t rfl) (.t rfl) eQ hB2 rfl) ?_)))))
 intro w3 Nw3
 replace hW := hW.sto Nw3.sto oQ
 replace hB1 := hB1.sto Nw3.sto oQ
 replace hB2 := Nw3.blk
 refine LW.T (CW.ret (KW.retA rfl rfl isAgg182 sizeOf182 rfl (hB2.agg) ⟨_, rfl, ?_⟩))
 exact ⟨rfl, hW⟩
theorem ord_4 (x : Fact) (w : World) : Ret prog 116 #[.agg x.cells] w fun r w' => r = .agg #[vi (ordK 4 x).1, vi (ordK 4 x).2] ∧ Up w w' := by
 have hW := Up.refl w
 refine cS (n := 8) (m := 9) func116 rfl rfl rfl (CW.S (LW.rr (.boxA (.t rfl)) rfl ?_))
 rintro _ w1 ⟨B1, rfl, NB1⟩
 have eB1 := NB1.at_
 have zB1 := NB1.size
 replace hW := hW.up NB1.up
 have hB1 := NB1.blk
 refine LW.rr (.allocA zeroValue182) rfl ?_
 rintro _ w2 ⟨B2, rfl, NB2⟩
 have eB2 := NB2.at_
 replace hW := hW.up NB2.up
 replace hB1 := hB1.up NB2.up
 have hB2 := NB2.blk
 refine LW.S (CW.region (LW.pp (.fA 7 underlying24 rfl sizeOf3 rfl) (LW.pp (.ld isAgg3 rfl (hB1.celln rfl)) (LW.pp (.fA 5 underlying24 rfl sizeOf3 rfl) (LW.pp (.ld isAgg3 rfl (hB1.celln rfl)) (LW.pp (.buildArr (cs := #[vi x.Wafer, vi x.Time]) underlying182 zeroValue182 sizeOf3 (.cons (.t rfl) (.cons (.t rfl) .nil)) rfl) (LW.E (.storeA sizeOf182 rfl (.t rfl) (.t rfl) eQ hB2 rfl) ?_)))))))
 intro w3 Nw3
 replace hW := hW.sto Nw3.sto oQ
 replace hB1 := hB1.sto Nw3.sto oQ
 replace hB2 := Nw3.blk
 refine LW.T (CW.ret (KW.retA rfl rfl isAgg182 sizeOf182 rfl (hB2.agg) ⟨_, rfl, ?_⟩))
 exact ⟨rfl, hW⟩
theorem ord_5 (x : Fact) (w : World) : Ret prog 118 #[.agg x.cells] w fun r w' => r = .agg #[vi (ordK 5 x).1, vi (ordK 5 x).2] ∧ Up w w' := by
 have hW := Up.refl w
 refine cS (n := 6) (m := 9) func118 rfl rfl rfl (CW.S (LW.rr (.boxA (.t rfl)) rfl ?_))
 rintro _ w1 ⟨B1, rfl, NB1⟩
 have eB1 := NB1.at_
 have zB1 := NB1.size
 replace hW := hW.up NB1.up
 have hB1 := NB1.blk
 refine LW.rr (.allocA zeroValue182) rfl ?_
 rintro _ w2 ⟨B2, rfl, NB2⟩
 have eB2 := NB2.at_
 replace hW := hW.up NB2.up
 replace hB1 := hB1.up NB2.up
 have hB2 := NB2.blk
 refine LW.S (CW.region (LW.pp (.fA 10 underlying24 rfl sizeOf3 rfl) (LW.pp (.ld isAgg3 rfl (hB1.celln rfl)) (LW.pp (.buildArr (cs := #[vi x.Product, vi 0]) underlying182 zeroValue182 sizeOf3 (.cons (.t rfl) (.cons (.const _) .nil)) rfl) (LW.E (.storeA sizeOf182 rfl (.t rfl) (.t rfl) eQ hB2 rfl) ?_)))))
 intro w3 Nw3
 replace hW := hW.sto Nw3.sto oQ
 replace hB1 := hB1.sto Nw3.sto oQ
 replace hB2 := Nw3.blk
 refine LW.T (CW.ret (KW.retA rfl rfl isAgg182 sizeOf182 rfl (hB2.agg) ⟨_, rfl, ?_⟩))
 exact ⟨rfl, hW⟩
theorem ord_8 (x : Fact) (w : World) : Ret prog 122 #[.agg x.cells] w fun r w' => r = .agg #[vi (ordK 8 x).1, vi (ordK 8 x).2] ∧ Up w w' := by
 have hW := Up.refl w
 refine cS (n := 8) (m := 9) func122 rfl rfl rfl (CW.S (LW.rr (.boxA (.t rfl)) rfl ?_))
 rintro _ w1 ⟨B1, rfl, NB1⟩
 have eB1 := NB1.at_
 have zB1 := NB1.size
 replace hW := hW.up NB1.up
 have hB1 := NB1.blk
 refine LW.rr (.allocA zeroValue182) rfl ?_
 rintro _ w2 ⟨B2, rfl, NB2⟩
 have eB2 := NB2.at_
 replace hW := hW.up NB2.up
 replace hB1 := hB1.up NB2.up
 have hB2 := NB2.blk
 refine LW.S (CW.region (LW.pp (.fA 8 underlying24 rfl sizeOf3 rfl) (LW.pp (.ld isAgg3 rfl (hB1.celln rfl)) (LW.pp (.fA 17 underlying24 rfl sizeOf3 rfl) (LW.pp (.ld isAgg3 rfl (hB1.celln rfl)) (LW.pp (.buildArr (cs := #[vi x.Other, vi x.Parties]) underlying182 zeroValue182 sizeOf3 (.cons (.t rfl) (.cons (.t rfl) .nil)) rfl) (LW.E (.storeA sizeOf182 rfl (.t rfl) (.t rfl) eQ hB2 rfl) ?_)))))))
 intro w3 Nw3
 replace hW := hW.sto Nw3.sto oQ
 replace hB1 := hB1.sto Nw3.sto oQ
 replace hB2 := Nw3.blk
 refine LW.T (CW.ret (KW.retA rfl rfl isAgg182 sizeOf182 rfl (hB2.agg) ⟨_, rfl, ?_⟩))
 exact ⟨rfl, hW⟩
theorem ord_10 (x : Fact) (w : World) : Ret prog 125 #[.agg x.cells] w fun r w' => r = .agg #[vi (ordK 10 x).1, vi (ordK 10 x).2] ∧ Up w w' := by
 have hW := Up.refl w
 refine cS (n := 8) (m := 9) func125 rfl rfl rfl (CW.S (LW.rr (.boxA (.t rfl)) rfl ?_))
 rintro _ w1 ⟨B1, rfl, NB1⟩
 have eB1 := NB1.at_
 have zB1 := NB1.size
 replace hW := hW.up NB1.up
 have hB1 := NB1.blk
 refine LW.rr (.allocA zeroValue182) rfl ?_
 rintro _ w2 ⟨B2, rfl, NB2⟩
 have eB2 := NB2.at_
 replace hW := hW.up NB2.up
 replace hB1 := hB1.up NB2.up
 have hB2 := NB2.blk
 refine LW.S (CW.region (LW.pp (.fA 14 underlying24 rfl sizeOf3 rfl) (LW.pp (.ld isAgg3 rfl (hB1.celln rfl)) (LW.pp (.fA 5 underlying24 rfl sizeOf3 rfl) (LW.pp (.ld isAgg3 rfl (hB1.celln rfl)) (LW.pp (.buildArr (cs := #[vi x.Recipe, vi x.Time]) underlying182 zeroValue182 sizeOf3 (.cons (.t rfl) (.cons (.t rfl) .nil)) rfl) (LW.E (.storeA sizeOf182 rfl (.t rfl) (.t rfl) eQ hB2 rfl) ?_)))))))
 intro w3 Nw3
 replace hW := hW.sto Nw3.sto oQ
 replace hB1 := hB1.sto Nw3.sto oQ
 replace hB2 := Nw3.blk
 refine LW.T (CW.ret (KW.retA rfl rfl isAgg182 sizeOf182 rfl (hB2.agg) ⟨_, rfl, ?_⟩))
 exact ⟨rfl, hW⟩
theorem ord_any (k : Int) (h1 : 1 ≤ k) (h2 : k ≤ 11) (x : Fact) (w : World) : Ret prog (ordFn k) #[.agg x.cells] w fun r w' => r = .agg #[vi (ordK k x).1, vi (ordK k x).2] ∧ Up w w' := by
 obtain rfl | rfl | rfl | rfl | rfl | rfl | rfl | rfl | rfl | rfl | rfl : k = 1 ∨ k = 2 ∨ k = 3 ∨ k = 4 ∨ k = 5 ∨ k = 6 ∨ k = 7 ∨ k = 8 ∨ k = 9 ∨ k = 10 ∨ k = 11 := by omega
 · exact ord_1 x w
 · exact ord_1 x w
 · exact ord_1 x w
 · exact ord_4 x w
 · exact ord_5 x w
 · exact ord_1 x w
 · exact ord_1 x w
 · exact ord_8 x w
 · exact ord_1 x w
 · exact ord_10 x w
 exact ord_1 x w
theorem ord_en (k : Int) (h1 : 1 ≤ k) (h2 : k ≤ 11) : ∀ (args : Array Go.Value) (w : World), (callFunc (ordFn k) args).run prog w = .ok (.enter (ordFn k) args) w := by
 obtain rfl | rfl | rfl | rfl | rfl | rfl | rfl | rfl | rfl | rfl | rfl : k = 1 ∨ k = 2 ∨ k = 3 ∨ k = 4 ∨ k = 5 ∨ k = 6 ∨ k = 7 ∨ k = 8 ∨ k = 9 ∨ k = 10 ∨ k = 11 := by omega
 · exact en112
 · exact en112
 · exact en112
 · exact en116
 · exact en118
 · exact en112
 · exact en112
 · exact en122
 · exact en112
 · exact en125
 exact en112
theorem kinds_any (w : World) : Ret prog 60 #[] w fun r w' => ∃ b, r = .map (some b) ∧ IMap w' b (keyT KdV 11) ∧ w.heap.size ≤ b ∧ Up w w' := by
 have hW := Up.refl w
 refine cS (n := 14) (m := 9) func60 rfl rfl rfl (CW.S (LW.C (LW.S ?_)))
 skip
 refine CW.region (LW.r REv.makeMap rfl rfl rfl rfl ?_)
 rintro _ w1 ⟨B1, rfl, MB1, uB1, eB1, zB1⟩
 replace hW := hW.up uB1
 have hM1 := MB1
 refine LW.pp (.build (cs := #[.func (.func 111) #[] #[], .func (.func 112) #[] #[]]) underlying124 zeroValue124 Tryz.places124 (.cons (.func _) (.cons (.func _) .nil)) rfl) ?_
 replace hM1 : IMap _ B1 (keyT KdV 0) := hM1
 refine LW.E (.insert (k := ((0 + 1 : Nat) : Int)) (v := KdV ((0 + 1 : Nat) : Int)) underlying119 underlying3 (.t rfl) (.const _) (.t rfl) hM1) ?_
 rintro w2 ⟨Mw2, Kw2, zw2⟩
 rw [keyT_next] at Mw2
 replace hM1 := Mw2
 replace hW := hW.sto Kw2 oQ
 refine LW.pp (.build (cs := #[.func (.func 113) #[] #[], .func (.func 112) #[] #[]]) underlying124 zeroValue124 Tryz.places124 (.cons (.func _) (.cons (.func _) .nil)) rfl) (LW.E (.insert (k := ((1 + 1 : Nat) : Int)) (v := KdV ((1 + 1 : Nat) : Int)) underlying119 underlying3 (.t rfl) (.const _) (.t rfl) hM1) ?_)
 rintro w3 ⟨Mw3, Kw3, zw3⟩
 rw [keyT_next] at Mw3
 replace hM1 := Mw3
 replace hW := hW.sto Kw3 oQ
 refine LW.pp (.build (cs := #[.func (.func 114) #[] #[], .func (.func 112) #[] #[]]) underlying124 zeroValue124 Tryz.places124 (.cons (.func _) (.cons (.func _) .nil)) rfl) (LW.E (.insert (k := ((2 + 1 : Nat) : Int)) (v := KdV ((2 + 1 : Nat) : Int)) underlying119 underlying3 (.t rfl) (.const _) (.t rfl) hM1) ?_)
 rintro w4 ⟨Mw4, Kw4, zw4⟩
 rw [keyT_next] at Mw4
 replace hM1 := Mw4
 replace hW := hW.sto Kw4 oQ
 refine LW.pp (.build (cs := #[.func (.func 115) #[] #[], .func (.func 116) #[] #[]]) underlying124 zeroValue124 Tryz.places124 (.cons (.func _) (.cons (.func _) .nil)) rfl) (LW.E (.insert (k := ((3 + 1 : Nat) : Int)) (v := KdV ((3 + 1 : Nat) : Int)) underlying119 underlying3 (.t rfl) (.const _) (.t rfl) hM1) ?_)
 rintro w5 ⟨Mw5, Kw5, zw5⟩
 rw [keyT_next] at Mw5
 replace hM1 := Mw5
 replace hW := hW.sto Kw5 oQ
 refine LW.pp (.build (cs := #[.func (.func 117) #[] #[], .func (.func 118) #[] #[]]) underlying124 zeroValue124 Tryz.places124 (.cons (.func _) (.cons (.func _) .nil)) rfl) (LW.E (.insert (k := ((4 + 1 : Nat) : Int)) (v := KdV ((4 + 1 : Nat) : Int)) underlying119 underlying3 (.t rfl) (.const _) (.t rfl) hM1) ?_)
 rintro w6 ⟨Mw6, Kw6, zw6⟩
 rw [keyT_next] at Mw6
 replace hM1 := Mw6
 replace hW := hW.sto Kw6 oQ
 refine LW.pp (.build (cs := #[.func (.func 119) #[] #[], .func (.func 112) #[] #[]]) underlying124 zeroValue124 Tryz.places124 (.cons (.func _) (.cons (.func _) .nil)) rfl) (LW.E (.insert (k := ((5 + 1 : Nat) : Int)) (v := KdV ((5 + 1 : Nat) : Int)) underlying119 underlying3 (.t rfl) (.const _) (.t rfl) hM1) ?_)
 rintro w7 ⟨Mw7, Kw7, zw7⟩
 rw [keyT_next] at Mw7
 replace hM1 := Mw7
 replace hW := hW.sto Kw7 oQ
 refine LW.pp (.build (cs := #[.func (.func 120) #[] #[], .func (.func 112) #[] #[]]) underlying124 zeroValue124 Tryz.places124 (.cons (.func _) (.cons (.func _) .nil)) rfl) (LW.E (.insert (k := ((6 + 1 : Nat) : Int)) (v := KdV ((6 + 1 : Nat) : Int)) underlying119 underlying3 (.t rfl) (.const _) (.t rfl) hM1) ?_)
 rintro w8 ⟨Mw8, Kw8, zw8⟩
 rw [keyT_next] at Mw8
 replace hM1 := Mw8
 replace hW := hW.sto Kw8 oQ
 refine LW.pp (.build (cs := #[.func (.func 121) #[] #[], .func (.func 122) #[] #[]]) underlying124 zeroValue124 Tryz.places124 (.cons (.func _) (.cons (.func _) .nil)) rfl) (LW.E (.insert (k := ((7 + 1 : Nat) : Int)) (v := KdV ((7 + 1 : Nat) : Int)) underlying119 underlying3 (.t rfl) (.const _) (.t rfl) hM1) ?_)
 rintro w9 ⟨Mw9, Kw9, zw9⟩
 rw [keyT_next] at Mw9
 replace hM1 := Mw9
 replace hW := hW.sto Kw9 oQ
 refine LW.pp (.build (cs := #[.func (.func 123) #[] #[], .func (.func 112) #[] #[]]) underlying124 zeroValue124 Tryz.places124 (.cons (.func _) (.cons (.func _) .nil)) rfl) (LW.E (.insert (k := ((8 + 1 : Nat) : Int)) (v := KdV ((8 + 1 : Nat) : Int)) underlying119 underlying3 (.t rfl) (.const _) (.t rfl) hM1) ?_)
 rintro w10 ⟨Mw10, Kw10, zw10⟩
 rw [keyT_next] at Mw10
 replace hM1 := Mw10
 replace hW := hW.sto Kw10 oQ
 refine LW.pp (.build (cs := #[.func (.func 124) #[] #[], .func (.func 125) #[] #[]]) underlying124 zeroValue124 Tryz.places124 (.cons (.func _) (.cons (.func _) .nil)) rfl) (LW.E (.insert (k := ((9 + 1 : Nat) : Int)) (v := KdV ((9 + 1 : Nat) : Int)) underlying119 underlying3 (.t rfl) (.const _) (.t rfl) hM1) ?_)
 rintro w11 ⟨Mw11, Kw11, zw11⟩
 rw [keyT_next] at Mw11
 replace hM1 := Mw11
 replace hW := hW.sto Kw11 oQ
 refine LW.pp (.build (cs := #[.func (.func 126) #[] #[], .func (.func 112) #[] #[]]) underlying124 zeroValue124 Tryz.places124 (.cons (.func _) (.cons (.func _) .nil)) rfl) (LW.E (.insert (k := ((10 + 1 : Nat) : Int)) (v := KdV ((10 + 1 : Nat) : Int)) underlying119 underlying3 (.t rfl) (.const _) (.t rfl) hM1) ?_)
 rintro w12 ⟨Mw12, Kw12, zw12⟩
 rw [keyT_next] at Mw12
 replace hM1 := Mw12
 replace hW := hW.sto Kw12 oQ
 refine LW.M rfl (LW.A rfl (LW.T (CW.ret (KW.ret1 rfl rfl ⟨_, rfl, ?_⟩))))
 exact ⟨_, rfl, hM1, by omega, hW⟩
end Go.Proofs.YtbbpkdlehlamlaaGreatDoor
namespace Go.Wx
abbrev FMap := List (List UInt8 × Fact)
def fget (m : FMap) (k : List UInt8) : Option Fact := (m.find? fun p => p.1 == k).map (·.2)
def fset (m : FMap) (k : List UInt8) (f : Fact) : FMap := if k ∈ m.map (·.1) then m.map (fun p => if p.1 = k then (k, f) else p) else m ++ [(k, f)]
def encM (m : FMap) : List (List UInt8 × Go.Value) := m.map fun p => (p.1, .agg p.2.cells)
theorem encM_keys (m : FMap) : (encM m).map (·.1) = m.map (·.1) := by simp [encM]
theorem encM_set (m : FMap) (k : List UInt8) (f : Fact) : Ms.mset (encM m) k (.agg f.cells) = encM (fset m k f) := by
 unfold Ms.mset fset
 rw [encM_keys]
 split
 · simp only [encM, List.map_map]
   apply List.map_congr_left
   intro p _
   simp only [Function.comp]
   split <;> rfl
 simp [encM]
theorem fget_some {m : FMap} {k : List UInt8} {f : Fact} (h : fget m k = some f) : (k, .agg f.cells) ∈ encM m := by
 unfold fget at h
 cases hf : m.find? (fun p => p.1 == k) with
 | none => rw [hf] at h; cases h
 | some p =>
   rw [hf] at h
   have h1 := List.mem_of_find?_eq_some hf
   have h2 : (p.1 == k) = true := List.find?_some (p := fun p : List UInt8 × Fact => p.1 == k) hf
   have h3 := eq_of_beq h2
   simp at h
   refine List.mem_map.2 ⟨p, h1, ?_⟩
   rw [h3, h]
theorem fget_none {m : FMap} {k : List UInt8} (h : fget m k = none) : k ∉ (encM m).map (·.1) := by
 rw [encM_keys]
 intro hm
 obtain ⟨p, hp, e⟩ := List.mem_map.1 hm
 unfold fget at h
 rw [Option.map_eq_none_iff, List.find?_eq_none] at h
 exact h p hp (by simp [e])
def bestStep (day : Int) (m : FMap) (f : Fact) : FMap := if keyB f = [] ∨ day < f.Day then m else match fget m (keyB f) with
 | none => fset m (keyB f) f
 | some old => if prevB f old = true then fset m (keyB f) f else m
def bestL (l : List Fact) (day : Int) : FMap := l.foldl (bestStep day) []
theorem best_next {l : List Fact} {day : Int} {k : Nat} {x : Fact} (h : l[k]? = some x) : bestL (l.take (k + 1)) day = bestStep day (bestL (l.take k) day) x := by
 rw [take_succ_of h, bestL, List.foldl_append]; rfl
theorem best_skip {day : Int} {m : FMap} {x : Fact} (h : keyB x = [] ∨ day < x.Day) : bestStep day m x = m := by rw [bestStep, if_pos h]
theorem best_new {day : Int} {m : FMap} {x : Fact} (h : ¬ (keyB x = [] ∨ day < x.Day)) (hg : fget m (keyB x) = none) : bestStep day m x = fset m (keyB x) x := by rw [bestStep, if_neg h, hg]
theorem best_put {day : Int} {m : FMap} {x old : Fact} (h : ¬ (keyB x = [] ∨ day < x.Day)) (hg : fget m (keyB x) = some old) (hp : prevB x old = true) : bestStep day m x = fset m (keyB x) x := by rw [bestStep, if_neg h, hg]; simp [hp]
theorem best_old {day : Int} {m : FMap} {x old : Fact} (h : ¬ (keyB x = [] ∨ day < x.Day)) (hg : fget m (keyB x) = some old) (hp : prevB x old = false) : bestStep day m x = m := by rw [bestStep, if_neg h, hg]; simp [hp]
def MOk (m : FMap) : Prop := ∀ p ∈ m, p.1 = keyB p.2 ∧ validB p.2 = true
theorem keyB_valid {f : Fact} (h : keyB f ≠ []) : validB f = true := by
 cases hv : validB f with
 | true => rfl
 | false => rw [keyB, if_neg (by rw [hv]; exact Bool.false_ne_true)] at h; exact absurd rfl h
theorem MOk.set {m : FMap} {f : Fact} (h : MOk m) (hf : validB f = true) : MOk (fset m (keyB f) f) := by
 intro p hp
 unfold fset at hp
 split at hp
 · obtain ⟨q, hq, e⟩ := List.mem_map.1 hp
   split at e
   · rw [← e]; exact ⟨rfl, hf⟩
   rw [← e]; exact h q hq
 rcases List.mem_append.1 hp with hp | hp
 · exact h p hp
 simp at hp; rw [hp]; exact ⟨rfl, hf⟩
theorem fset_len (m : FMap) (k : List UInt8) (f : Fact) : (fset m k f).length ≤ m.length + 1 := by
 unfold fset
 split <;> simp
theorem MOk.step {m : FMap} (h : MOk m) (day : Int) (f : Fact) : MOk (bestStep day m f) ∧ (bestStep day m f).length ≤ m.length + 1 := by
 unfold bestStep
 split
 · exact ⟨h, by omega⟩
 rename_i hk
 have hv : validB f = true := keyB_valid fun e => hk (.inl e)
 split
 · exact ⟨h.set hv, fset_len _ _ _⟩
 split
 · exact ⟨h.set hv, fset_len _ _ _⟩
 exact ⟨h, by omega⟩
theorem best_ok (day : Int) : ∀ (l : List Fact), MOk (bestL l day) ∧ (bestL l day).length ≤ l.length := by
 have : ∀ (l : List Fact) (m : FMap), MOk m → MOk (l.foldl (bestStep day) m) ∧ (l.foldl (bestStep day) m).length ≤ m.length + l.length := by
   intro l
   induction l with
   | nil => intro m h; exact ⟨h, by simp⟩
   | cons x l ih =>
     intro m h
     have h1 := h.step day x
     have h2 := ih _ h1.1
     exact ⟨h2.1, by have := h2.2; simp only [List.foldl_cons, List.length_cons]; omega⟩
 intro l
 have h := this l [] (fun p hp => by simp at hp)
 exact ⟨h.1, by have := h.2; simp only [List.length_nil, Nat.zero_add] at this; exact this⟩
def lstAt (dn : List Int) (ds : List Fact) (j : Nat) : List Fact :=
 if ((j + 1 : Nat) : Int) ∈ dn then sortK (ordK ((j + 1 : Nat) : Int)) (ds.filter fun f => !f.Gone && decide (f.Kind = ((j + 1 : Nat) : Int))) else ds.filter fun f => !f.Gone && decide (f.Kind = ((j + 1 : Nat) : Int))
def byK (dn : List Int) (ds : List Fact) : List (List Fact) := (List.range 11).map (lstAt dn ds)
theorem byK_len (dn : List Int) (ds : List Fact) : (byK dn ds).length = 11 := by simp [byK]
theorem byK_get (dn : List Int) (ds : List Fact) {j : Nat} (hj : j < 11) : (byK dn ds)[j]? = some (lstAt dn ds j) := by simp [byK, hj]
theorem byK_gone {ds : List Fact} {x : Fact} (h : x.Gone = true) : byK [] (ds ++ [x]) = byK [] ds := by
 unfold byK
 apply List.map_congr_left
 intro j _
 simp [lstAt, h]
theorem byK_add {ds : List Fact} {x : Fact} {j : Nat} (h : x.Gone = false) (hj : j < 11) (hk : x.Kind = ((j + 1 : Nat) : Int)) : byK [] (ds ++ [x]) = (byK [] ds).set j (lstAt [] ds j ++ [x]) := by
 apply List.ext_getElem?
 intro i
 rw [List.getElem?_set]
 by_cases e : j = i
 · subst e
   rw [if_pos rfl, if_pos (by rw [byK_len]; exact hj), byK_get _ _ hj]
   simp [lstAt, h, hk]
 rw [if_neg e]
 by_cases hi : i < 11
 · rw [byK_get _ _ hi, byK_get _ _ hi]
   have : decide (x.Kind = ((i + 1 : Nat) : Int)) = false := decide_eq_false oQ
   simp only [lstAt, List.not_mem_nil, if_false, List.filter_append]
   rw [List.filter_cons, if_neg (by rw [this, Bool.and_false]; exact Bool.false_ne_true)]
   simp
 rw [List.getElem?_eq_none (by rw [byK_len]; omega), List.getElem?_eq_none (by rw [byK_len]; omega)]
theorem byK_sort {dn : List Int} {ds : List Fact} {j : Nat} (hj : j < 11) (hn : ((j + 1 : Nat) : Int) ∉ dn) : (byK dn ds).set j (sortK (ordK ((j + 1 : Nat) : Int)) (lstAt dn ds j)) = byK (dn ++ [((j + 1 : Nat) : Int)]) ds := by
 apply List.ext_getElem?
 intro i
 rw [List.getElem?_set]
 by_cases e : j = i
 · subst e
   rw [if_pos rfl, if_pos (by rw [byK_len]; exact hj), byK_get _ _ hj]
   unfold lstAt
   rw [if_neg hn, if_pos (List.mem_append_right _ (List.mem_singleton.2 rfl))]
 rw [if_neg e]
 by_cases hi : i < 11
 · rw [byK_get _ _ hi, byK_get _ _ hi]
   have : ((i + 1 : Nat) : Int) ≠ ((j + 1 : Nat) : Int) := by omega
   simp only [lstAt, List.mem_append, List.mem_singleton, this, or_false]
 rw [List.getElem?_eq_none (by rw [byK_len]; omega), List.getElem?_eq_none (by rw [byK_len]; omega)]
theorem lst_len (dn : List Int) (ds : List Fact) (j : Nat) : (lstAt dn ds j).length ≤ ds.length := by
 unfold lstAt
 split
 · rw [(sortK_sts _).same.length]; exact List.length_filter_le _ _
 exact List.length_filter_le _ _
theorem byK_nil : byK [] [] = List.replicate 11 ([] : List Fact) := by
 rfl
theorem set_arr (vs : List Go.Value) (j : Nat) (v : Go.Value) : vs.toArray.setIfInBounds j v = (vs.set j v).toArray := by simp
theorem key_empty {x : Fact} (h : keyB x = []) : ((⟨(keyB x).toArray⟩ : ByteArray).toList == (⟨#[]⟩ : ByteArray).toList) = true := by rw [ba_toList, ba_toList, h]; rfl
theorem key_full {x : Fact} (h : keyB x ≠ []) : ((⟨(keyB x).toArray⟩ : ByteArray).toList == (⟨#[]⟩ : ByteArray).toList) = false := by
 rw [ba_toList, ba_toList]
 simpa using h
theorem eleven_split {vs : List Go.Value} (h : vs.length = 11) : ∃ v0 v1 v2 v3 v4 v5 v6 v7 v8 v9 v10, vs = [v0, v1, v2, v3, v4, v5, v6, v7, v8, v9, v10] := by
 match vs, h with
 | [v0, v1, v2, v3, v4, v5, v6, v7, v8, v9, v10], _ => exact ⟨v0, v1, v2, v3, v4, v5, v6, v7, v8, v9, v10, rfl⟩
def baseL (ds : List Fact) : Base := ⟨lstAt [1] ds 0, lstAt [2] ds 1, lstAt [3] ds 2, lstAt [4] ds 3, lstAt [5] ds 4, lstAt [6] ds 5, lstAt [7] ds 6, lstAt [8] ds 7, lstAt [9] ds 8, lstAt [10] ds 9, lstAt [11] ds 10⟩
theorem lst_done {dn : List Int} {ds : List Fact} {j : Nat} (h : ((j + 1 : Nat) : Int) ∈ dn) : lstAt dn ds j = lstAt [((j + 1 : Nat) : Int)] ds j := by
 unfold lstAt
 rw [if_pos h, if_pos (List.mem_singleton.2 rfl)]
end Go.Wx
namespace Go.Proofs.YtbbpkdlehlamlaaGreatDoor
open Go.Proofs.Tryz
open Go.Wx Go.RowKit
end Go.Proofs.YtbbpkdlehlamlaaGreatDoor
namespace Go.Wx
theorem nodup_snoc {ds : List Fact} {x : Fact} (h : (ds.map keyB).Nodup) (hf : keyB x ∉ ds.map keyB) : ((ds ++ [x]).map keyB).Nodup := by
 rw [List.map_append, List.nodup_append]
 exact ⟨h, by simp, fun a ha c hc => by simp at hc; subst hc; exact fun e => hf (e ▸ ha)⟩
theorem nodup_le {ds : List Fact} {M : FMap} (h : ∀ f ∈ ds, (keyB f, f) ∈ M) (hn : (ds.map keyB).Nodup) : ds.length ≤ M.length := by
 have := hn.length_le_of_subset (l₂ := M.map (·.1)) (fun k hk => by
   obtain ⟨f, hf, rfl⟩ := List.mem_map.1 hk
   exact List.mem_map.2 ⟨_, h f hf, rfl⟩)
 simpa using this
theorem nodup_lt {ds : List Fact} {M : FMap} {x : Fact} (h : ∀ f ∈ ds, (keyB f, f) ∈ M) (hn : (ds.map keyB).Nodup) (hx : (keyB x, x) ∈ M) (hf : keyB x ∉ ds.map keyB) : ds.length + 1 ≤ M.length := by
 have := nodup_le (ds := ds ++ [x]) (M := M) (fun f hf => by rcases List.mem_append.1 hf with hf | hf; exact h f hf; simp at hf; rw [hf]; exact hx) (nodup_snoc hn hf)
 simpa using this
theorem eleven_le {dn : List Int} (h : dn.Nodup ∧ ∀ k ∈ dn, 1 ≤ k ∧ k ≤ 11) : dn.length ≤ 11 := by
 have := h.1.length_le_of_subset (l₂ := [1, 2, 3, 4, 5, 6, 7, 8, 9, 10, 11]) (fun k hk => by
   have := h.2 k hk
   simp; omega)
 simpa using this
theorem eleven_lt {dn : List Int} {k : Int} (h : dn.Nodup ∧ ∀ k ∈ dn, 1 ≤ k ∧ k ≤ 11) (hk : 1 ≤ k ∧ k ≤ 11) (hf : k ∉ dn) : dn.length + 1 ≤ 11 := by
 have := eleven_le (dn := dn ++ [k]) ⟨List.nodup_append.2 ⟨h.1, by simp, fun a ha c hc => by simp at hc; subst hc; exact fun e => hf (e ▸ ha)⟩, fun q hq => by rcases List.mem_append.1 hq with hq | hq; exact h.2 q hq; simp at hq; rw [hq]; exact hk⟩
 simpa using this
theorem set_same {α : Type} {vs : List α} {j : Nat} {v : α} (h : vs[j]? = some v) : vs.set j v = vs := by
 apply List.ext_getElem?
 intro i
 rw [List.getElem?_set]
 by_cases e : j = i
 · subst e
   rw [if_pos rfl, if_pos (gQ.1 h).1, h]
 rw [if_neg e]
theorem lists_sl {e : Nat} {dn : List Int} {ds : List Fact} {vs : List Go.Value} {w : World} (h : (aAnd (lists e 19 Fact.cells vs (byK dn ds))).holds w) {j : Nat} {v : Go.Value} (hv : vs[j]? = some v) (hj : j < 11) (hin : ((j + 1 : Nat) : Int) ∈ dn) : Sl w v 19 Fact.cells (lstAt [((j + 1 : Nat) : Int)] ds j) := by
 have := (lists_own h hv (byK_get _ _ hj)).sl (fun _ => rfl)
 rwa [lst_done hin] at this
theorem lists_ow {e : Nat} {dn : List Int} {ds : List Fact} {vs : List Go.Value} {w : World} (h : (aAnd (lists e 19 Fact.cells vs (byK dn ds))).holds w) {j : Nat} {v : Go.Value} (hv : vs[j]? = some v) (hj : j < 11) (hin : ((j + 1 : Nat) : Int) ∈ dn) : OwnS w 0 e 19 Fact.cells v (lstAt [((j + 1 : Nat) : Int)] ds j) := by
 have := lists_own h hv (byK_get _ _ hj)
 rwa [lst_done hin] at this
def BaseB (base : Nat) (bc : Array Go.Value) : Prop := ∀ (j : Nat) (v : Go.Value), bc[j]? = some v → ∀ i, v.ownBlock = some i → base ≤ i
theorem Sl.frB {α : Type} {S : Nat → Prop} {w w' : World} {base k : Nat} {v : Go.Value} {enc : α → Array Go.Value} {xs : List α} (h : Sl w v k enc xs) (hb : ∀ i, v.ownBlock = some i → base ≤ i) (f : Fr S w w') (hS : ∀ i, S i → i < base) : Sl w' v k enc xs := by
 obtain ⟨ad, c, rfl, hE⟩ := h
 refine ⟨ad, c, rfl, Els.fr hE f fun B o ea hSB => ?_⟩
 subst ea
 have h1 := hb B rfl
 have h2 := hS B hSB
 omega
theorem BaseC.frB {S : Nat → Prop} {w w' : World} {base : Nat} {bc : Array Go.Value} {b : Base} (h : BaseC w bc b) (hb : BaseB base bc) (f : Fr S w w') (hS : ∀ i, S i → i < base) : BaseC w' bc b := by
 obtain ⟨v0, v1, v2, v3, v4, v5, v6, v7, v8, v9, v10, rfl, h0, h1, h2, h3, h4, h5, h6, h7, h8, h9, h10⟩ := h
 exact ⟨v0, v1, v2, v3, v4, v5, v6, v7, v8, v9, v10, rfl, h0.frB (hb 0 _ rfl) f hS, h1.frB (hb 1 _ rfl) f hS, h2.frB (hb 2 _ rfl) f hS, h3.frB (hb 3 _ rfl) f hS, h4.frB (hb 4 _ rfl) f hS, h5.frB (hb 5 _ rfl) f hS, h6.frB (hb 6 _ rfl) f hS, h7.frB (hb 7 _ rfl) f hS, h8.frB (hb 8 _ rfl) f hS, h9.frB (hb 9 _ rfl) f hS, h10.frB (hb 10 _ rfl) f hS⟩
theorem lists_base {α : Type} {e k base : Nat} {enc : α → Array Go.Value} {vs : List Go.Value} {xss : List (List α)} (hl : vs.length = xss.length) (h : ∀ i, (aAnd (lists e k enc vs xss)).foot i → base ≤ i) : BaseB base vs.toArray := fun j v hv i hi => by
 have hv2 : vs[j]? = some v := by simpa using hv
 have hlt := (gQ.1 hv2).1
 obtain ⟨xs, hx⟩ := getElem?_of_lt (xs := xss) (i := j) oQ
 exact h i ⟨_, List.mem_of_getElem? (lists_get hv2 hx), hi⟩
theorem all_one {vs : List Go.Value} (h : ∀ v ∈ vs, v.oneCell' = true) : vs.toArray.all (·.oneCell') = true := by
 rw [Array.all_eq_true_iff_forall_mem]
 intro v hv
 exact h v (by simpa using hv)
end Go.Wx
namespace Go.Proofs.YtbbpkdlehlamlaaGreatDoor
open Go.Proofs.Tryz
open Go.Wx Go.RowKit
set_option maxHeartbeats 8000000 in
theorem Of_walk (ad : Option Addr) (cp : Nat) (l : List Fact) (day : Int) (w : World) (hE0 : Els w ad 19 Fact.cells l) (hl : l.length ≤ 100000) : Ret prog 32 #[.slice ad l.length cp, vi day] w fun r w' => ∃ bc ds, r = .agg bc ∧ BaseC w' bc (baseL ds) ∧ (∀ f ∈ ds, (keyB f, f) ∈ bestL l day) ∧ (ds.map keyB).Perm ((bestL l day).map (·.1)) ∧ BaseB w.heap.size bc ∧ (∃ v, bc[0]? = some v ∧ OwnS w' 0 24 19 Fact.cells v (baseL ds).Processes) ∧ Up w w' := by
 obtain ⟨w0, rfl⟩ : ∃ w0, w0 = w := ⟨_, rfl⟩
 have hS := Sep.start no w0
 refine cS (n := 91) (m := 9) func32 rfl rfl rfl (CW.S (LW.rr (.allocA zeroValue32) rfl ?_))
 rintro _ w1 ⟨B4, rfl, NB4⟩
 replace hS := hS.addB NB4
 refine LW.S (CW.region (LW.r Ms.REv.makeMap rfl rfl rfl rfl ?_))
 rintro _ w2 ⟨B18, rfl, M18, u18, e18, z18⟩
 replace hS := hS.add u18 (A' := Ms.aIMap B18 (encM [])) M18 (fun i (e : i = B18) => by omega)
 refine LW.A rfl (LW.S (CW.S (LW.M rfl (LW.pp (.lenS underlying26 (.t rfl)) (LW.pp (.move (.const _)) (LW.T (CW.block (CW.loopB (σ := Nat) (fun s w => (s ≤ l.length) ∧ (Wx.Sep no w0 w [aBlk B4 #[.slice none 0 0, .slice none 0 0, .slice none 0 0, .slice none 0 0, .slice none 0 0, .slice none 0 0, .slice none 0 0, .slice none 0 0, .slice none 0 0, .slice none 0 0, .slice none 0 0] 32, Ms.aIMap B18 (encM (bestL (l.take s) day))])) (fun s => [(21, .eq (vi (s : Int)))]) ([(1, .eq _), (4, .eq _), (5, .eq _), (19, .eq _), (20, .eq _)]) (fun s => l.length - s) 0 ?_ ⟨rfl, rfl, rfl, rfl, rfl, rfl, trivial⟩ ?_))))))))
 ·exact ⟨Nat.zero_le _, hS⟩
 rintro k w3 ⟨hkk, hS⟩
 refine CW.S (LW.pp (.lss (.t rfl) (.t rfl)) (LW.S (CW.cond (.t rfl) (fun h22 => ?_) (fun h22 => ?_))))
 ·replace h22 := dQ h22
  refine CW.skip (KW.then (CW.seq (CW.block (CW.seq ?_))))
  have hE := Els.up hE0 hS.upd
  have hkl : k < l.length := by simp at h22; omega
  refine CW.region ?_
  obtain ⟨x, hx⟩ := getElem?_of_lt (xs := l) (i := k) oQ
  obtain ⟨Bx, ox, ax, hcx⟩ := hE _ x hx
  refine LW.pp (.indexAddr' underlying26 sizeOf24 (.t rfl) (.t rfl) oQ ax) (LW.pp (.la isAgg24 sizeOf24 rfl (hcx)) (LW.rr (.allocA zeroValue24) rfl ?_))
  rintro _ w4 ⟨B7, rfl, MB7⟩
  refine LW.E (.storeA sizeOf24 rfl (.t rfl) (.t rfl) eQ MB7.blk rfl) ?_
  intro w5 LB7
  have NB7 := MB7.set LB7
  replace hcx := hcx.up NB7.up
  replace hS := hS.addB NB7
  refine LW.S (CW.region (LW.pp (.la isAgg24 sizeOf24 rfl ((hS.blk 2 rfl).agg)) (LW.K (eC (.o rfl) (en39)) rfl (Key_any x _) ?_)))
  rintro _ w6 ⟨rfl, uw6⟩
  replace hS := hS.up uw6
  refine LW.A rfl (LW.S (CW.seq ?_))
  cases hq6 : decide (keyB x = []) with
  | true =>
   replace hq6 := of_decide_eq_true hq6
   refine CW.region (LW.M rfl (LW.pp (.tr (PEv.eqlStr (.t rfl) (.const _)) (key_empty hq6)) (LW.M rfl (LW.N (LW.N (LW.N (LW.N (LW.pp (.tr (PEv.pick_or (b := false) (.t rfl) (fun hp => absurd (show true = false from hp) cQ)) (rfl)) (LW.T (CW.cond_true (.t rfl) (CW.exit (KW.then_exit (KW.block_hit (KW.then (CW.region (LW.pp (.inc (.t rfl) oQ) (LW.M rfl (LW.nil (KW.round ?_)))))))))))))))))))
   exact ⟨k + 1, ⟨by omega, by rw [best_next hx]; (rw [best_skip (.inl hq6)]; exact hS.take 2)⟩, ⟨rfl, rfl, rfl, rfl, rfl, rfl, trivial⟩, by omega⟩
  | false =>
   replace hq6 := of_decide_eq_false hq6
   refine CW.region (LW.M rfl (LW.pp (.fa (PEv.eqlStr (.t rfl) (.const _)) (key_full hq6)) (LW.M rfl (LW.Y (LW.pp (.fA 3 underlying24 rfl sizeOf3 rfl) (LW.Y (LW.pp (.ld isAgg3 rfl ((hS.blk 2 rfl).celln rfl)) (LW.Y (LW.M rfl (LW.Y (LW.pp (.gtr (.t rfl) (.t rfl)) (LW.pp (.pick_or (.t rfl) (fun hp => (by exact .tmp rfl))) (LW.T (CW.cond (.t rfl) (fun h34 => ?_) (fun h34 => ?_)))))))))))))))
   ·replace h34 := dQ h34
    skip
    refine CW.exit (KW.then_exit (KW.block_hit (KW.then (CW.region (LW.pp (.inc (.t rfl) oQ) (LW.M rfl (LW.nil (KW.round ?_))))))))
    exact ⟨k + 1, ⟨by omega, by rw [best_next hx]; (rw [best_skip (.inr h34)]; exact hS.take 2)⟩, ⟨rfl, rfl, rfl, rfl, rfl, rfl, trivial⟩, by omega⟩
   replace h34 := dQ h34
   have hno : ¬ (keyB x = [] ∨ day < x.Day) := fun h => h.elim hq6 (fun h2 => by simp at h34; omega)
   refine CW.skip (KW.then (CW.seq ?_))
   cases hq7 : fget (bestL (l.take k) day) (keyB x) with
   | none =>
    refine CW.region (LW.M rfl (LW.M rfl (LW.pp (Ms.PEv.lookupNo underlying76 underlying9 zeroValue24 (.t rfl) (.t rfl) (hS.get 1 rfl) (fget_none hq7)) (LW.M rfl (LW.pp (.extract (.t rfl) rfl) (LW.pp (.extract (.t rfl) rfl) (LW.rr (.allocA zeroValue24) rfl ?_)))))))
    rintro _ w7 ⟨B9, rfl, MB9⟩
    refine LW.E (.storeA sizeOf24 rfl (.t rfl) (.t rfl) eQ MB9.blk rfl) ?_
    intro w8 LB9
    have NB9 := MB9.set LB9
    replace hS := hS.addB NB9
    refine LW.A rfl (LW.S (CW.region (LW.M rfl (LW.pp (.tr (PEv.not (.t rfl)) (rfl)) (LW.M rfl (LW.N (LW.N (LW.N (LW.pp (.tr (PEv.pick_or (b := false) (.t rfl) (fun hp => absurd (show true = false from hp) cQ)) (rfl)) (LW.T (CW.cond_true (.t rfl) (CW.region (LW.M rfl (LW.M rfl (LW.pp (.la isAgg24 sizeOf24 rfl ((hS.blk 2 rfl).agg)) (LW.E (Ms.SEv.mapUpdate underlying76 underlying9 (.t rfl) (.t rfl) (.t rfl) (hS.get 1 rfl)) ?_))))))))))))))))
    rintro w9 ⟨Mu, Ku, zu⟩
    rw [encM_set] at Mu
    replace hS := hS.stp 1 rfl (Ms.stp_set Mu Ku)
    refine LW.nil (KW.inBlock (KW.then (CW.region (LW.pp (.inc (.t rfl) oQ) (LW.M rfl (LW.nil (KW.round ?_)))))))
    exact ⟨k + 1, ⟨by omega, by rw [best_next hx]; (rw [best_new hno hq7]; exact hS.take 2)⟩, ⟨rfl, rfl, rfl, rfl, rfl, rfl, trivial⟩, by omega⟩
   | some old =>
    refine CW.region (LW.M rfl (LW.M rfl (LW.pp (Ms.PEv.lookupYes underlying76 underlying9 (.t rfl) (.t rfl) (hS.get 1 rfl) (fget_some hq7)) (LW.M rfl (LW.pp (.extract (.t rfl) rfl) (LW.pp (.extract (.t rfl) rfl) (LW.rr (.allocA zeroValue24) rfl ?_)))))))
    rintro _ w10 ⟨B9, rfl, MB9⟩
    refine LW.E (.storeA sizeOf24 rfl (.t rfl) (.t rfl) eQ MB9.blk rfl) ?_
    intro w11 LB9
    have NB9 := MB9.set LB9
    replace hS := hS.addB NB9
    refine LW.A rfl (LW.S (CW.region (LW.M rfl (LW.pp (.fa (PEv.not (.t rfl)) (rfl)) (LW.M rfl (LW.Y (LW.pp (.la isAgg24 sizeOf24 rfl ((hS.blk 2 rfl).agg)) (LW.Y (LW.pp (.la isAgg24 sizeOf24 rfl ((hS.blk 3 rfl).agg)) (LW.Y (LW.K (eC (.u rfl rfl) (en65)) rfl (Prevails_any x old _) ?_)))))))))))
    rintro _ w12 ⟨rfl, uw12⟩
    replace hS := hS.up uw12
    refine LW.pp (.pick_or (.t rfl) (fun hp => (by exact .tmp rfl))) (LW.T (CW.cond (.t rfl) (fun h47 => ?_) (fun h47 => ?_)))
    ·replace h47 : prevB x old = true := by simpa using h47
     refine CW.region (LW.M rfl (LW.M rfl (LW.pp (.la isAgg24 sizeOf24 rfl ((hS.blk 2 rfl).agg)) (LW.E (Ms.SEv.mapUpdate underlying76 underlying9 (.t rfl) (.t rfl) (.t rfl) (hS.get 1 rfl)) ?_))))
     rintro w13 ⟨Mu, Ku, zu⟩
     rw [encM_set] at Mu
     replace hS := hS.stp 1 rfl (Ms.stp_set Mu Ku)
     refine LW.nil (KW.inBlock (KW.then (CW.region (LW.pp (.inc (.t rfl) oQ) (LW.M rfl (LW.nil (KW.round ?_)))))))
     exact ⟨k + 1, ⟨by omega, by rw [best_next hx]; (rw [best_put hno hq7 h47]; exact hS.take 2)⟩, ⟨rfl, rfl, rfl, rfl, rfl, rfl, trivial⟩, by omega⟩
    replace h47 : prevB x old = false := by simpa using h47
    refine CW.skip (KW.inBlock (KW.then (CW.region (LW.pp (.inc (.t rfl) oQ) (LW.M rfl (LW.nil (KW.round ?_)))))))
    exact ⟨k + 1, ⟨by omega, by rw [best_next hx]; (rw [best_old hno hq7 h47]; exact hS.take 2)⟩, ⟨rfl, rfl, rfl, rfl, rfl, rfl, trivial⟩, by omega⟩
 refine CW.exit (KW.then_exit (KW.then_exit (KW.block_hit (KW.then (CW.seq ?_)))))
 have hkl : k = l.length := by simp at h22; omega
 subst hkl
 rw [List.take_length] at hS
 obtain ⟨M, hM⟩ : ∃ M, M = bestL l day := ⟨_, rfl⟩
 rw [← hM] at hS
 have hMo := (best_ok day l).1
 have hMl := (best_ok day l).2
 rw [← hM] at hMo hMl
 refine CW.region (LW.rr (.allocA zeroValue32) rfl ?_)
 rintro _ w14 ⟨B11, rfl, NB11⟩
 replace hS := hS.addB NB11
 refine LW.S (CW.region (LW.K (eC .nil (en60)) rfl (kinds_any _) ?_))
 rintro _ w15 ⟨bk, rfl, hKm, hKb, uw15⟩
 replace hS := hS.add uw15 (A' := aIMap bk (keyT KdV 11)) (hKm) (fun i (e : i = bk) => by omega)
 refine LW.A rfl (LW.S (CW.seq ?_))
 have hLn := lists_nil 24 19 Fact.cells 11 w15
 replace hS := hS.add (Up.refl _) (A' := aAnd (lists 24 19 Fact.cells (List.replicate 11 (.slice none 0 0)) (List.replicate 11 ([] : List Fact)))) hLn.1 (fun i h => absurd h (hLn.2 i))
 rw [← byK_nil] at hS
 refine CW.region (LW.M rfl (LW.rr (Ms.REv.range underlying76 (.t rfl) (hS.get 1 rfl)) rfl ?_))
 rintro _ w16 ⟨r54, rfl, hR_, uR, eR, zR⟩
 replace hS := hS.stp 1 rfl (Ms.stp_range hR_ uR eR)
 refine LW.T (CW.block (CW.loopB (σ := List Fact × List Go.Value) (fun s w => (∀ f ∈ s.1, (keyB f, f) ∈ M) ∧ ((s.1.map keyB).Nodup) ∧ (s.2.length = 11) ∧ (Wx.Sep no w0 w [aBlk B4 #[.slice none 0 0, .slice none 0 0, .slice none 0 0, .slice none 0 0, .slice none 0 0, .slice none 0 0, .slice none 0 0, .slice none 0 0, .slice none 0 0, .slice none 0 0, .slice none 0 0] 32, Ms.aIRng B18 r54 (encM M) (s.1.map keyB), aBlk B11 s.2.toArray 32, aIMap bk (keyT KdV 11), aAnd (lists 24 19 Fact.cells s.2 (byK [] s.1))])) (fun s => []) ([(4, .eq _), (11, .eq _), (12, .eq _), (54, .eq _)]) (fun s => M.length - s.1.length) ([], List.replicate 11 (.slice none 0 0)) ?_ ⟨rfl, rfl, rfl, rfl, trivial⟩ ?_))
 ·exact ⟨fun f h => by simp at h, List.nodup_nil, rfl, hS⟩
 rintro ⟨ds, vs⟩ w17 ⟨hds, hdn, hvl, hS⟩
 dsimp only at hds hdn hvl hS
 refine CW.S (LW.rr (Ms.REv.next (.t rfl) (hS.get 1 rfl)) rfl ?_)
 rintro _ w18 (⟨rfl, rfl, hPm⟩ | ⟨k0, u0, rfl, hNx⟩)
 ·skip
  refine LW.pp (.extract (.t rfl) rfl) (LW.S (CW.cond_false (.t rfl) (CW.exit (KW.then_exit (KW.then_exit (KW.block_hit (KW.then (CW.seq (CW.seq ?_)))))))))
  have hPd := hPm
  refine CW.region (LW.M rfl (LW.rr (.range underlying119 (.t rfl) (hS.get 3 rfl)) rfl ?_))
  rintro _ w19 ⟨r77, rfl, hR_, uR, eR, zR⟩
  replace hS := hS.stp 3 rfl (stp_range hR_ uR eR)
  refine LW.T (CW.block (CW.loopB (σ := List Int) (fun s w => (s.Nodup ∧ ∀ k ∈ s, 1 ≤ k ∧ k ≤ 11) ∧ (Wx.Sep no w0 w [aBlk B4 #[.slice none 0 0, .slice none 0 0, .slice none 0 0, .slice none 0 0, .slice none 0 0, .slice none 0 0, .slice none 0 0, .slice none 0 0, .slice none 0 0, .slice none 0 0, .slice none 0 0] 32, Ms.aIRng B18 r54 (encM M) (ds.map keyB), aBlk B11 vs.toArray 32, aIRng bk r77 (keyT KdV 11) s, aAnd (lists 24 19 Fact.cells vs (byK s ds))])) (fun s => []) ([(4, .eq _), (11, .eq _), (77, .eq _)]) (fun s => 11 - s.length) [] ?_ ⟨rfl, rfl, rfl, trivial⟩ ?_))
  ·exact ⟨⟨List.nodup_nil, fun k h => by simp at h⟩, hS⟩
  rintro dn w20 ⟨hdk, hS⟩
  refine CW.S (LW.rr (.next (.t rfl) (hS.get 3 rfl)) rfl ?_)
  rintro _ w21 (⟨rfl, rfl, hPm⟩ | ⟨kk, u0, rfl, hNx⟩)
  ·skip
   refine LW.pp (.extract (.t rfl) rfl) (LW.S (CW.cond_false (.t rfl) (CW.exit (KW.then_exit (KW.then_exit (KW.block_hit (KW.then (CW.seq ?_))))))))
   obtain ⟨v0, v1, v2, v3, v4, v5, v6, v7, v8, v9, v10, rfl⟩ := eleven_split hvl
   have hv1 := lists_one (hS.get 4 rfl) (by rw [hvl, byK_len])
   refine CW.region (LW.pp (.la isAgg32 sizeOf32 rfl ((hS.blk 2 rfl).agg)) (LW.E (.storeA sizeOf32 rfl (.t rfl) (.t rfl) (all_one hv1) (hS.blk 0 rfl) rfl) ?_))
   intro w22 Nw22
   have zw22 := Nw22.size
   replace hS := hS.putB 0 rfl Nw22
   refine LW.T (CW.ret (KW.retA rfl rfl isAgg32 sizeOf32 rfl ((hS.blk 0 rfl).agg) ⟨_, rfl, ?_⟩))
   have hOw := hS.get 4 rfl
   have hin : ∀ k : Nat, k < 11 → ((k + 1 : Nat) : Int) ∈ dn := fun k hk => hPm.symm.subset (List.mem_map.2 ⟨(((k + 1 : Nat) : Int), KdV ((k + 1 : Nat) : Int)), keyT_mem.2 ⟨by omega, by omega, rfl⟩, rfl⟩)
   exact ⟨_, ds, rfl, ⟨v0, v1, v2, v3, v4, v5, v6, v7, v8, v9, v10, rfl, lists_sl hOw (j := 0) rfl cQ (hin 0 cQ), lists_sl hOw (j := 1) rfl cQ (hin 1 cQ), lists_sl hOw (j := 2) rfl cQ (hin 2 cQ), lists_sl hOw (j := 3) rfl cQ (hin 3 cQ), lists_sl hOw (j := 4) rfl cQ (hin 4 cQ), lists_sl hOw (j := 5) rfl cQ (hin 5 cQ), lists_sl hOw (j := 6) rfl cQ (hin 6 cQ), lists_sl hOw (j := 7) rfl cQ (hin 7 cQ), lists_sl hOw (j := 8) rfl cQ (hin 8 cQ), lists_sl hOw (j := 9) rfl cQ (hin 9 cQ), lists_sl hOw (j := 10) rfl cQ (hin 10 cQ)⟩, fun f hf => hM ▸ hds f hf, by rw [encM_keys] at hPd; exact hM ▸ hPd, lists_base (by rw [byK_len]; rfl) (fun i hi => (hS.foot 4 rfl i hi).resolve_left fun h => h), ⟨v0, rfl, lists_ow hOw (j := 0) rfl cQ (hin 0 cQ)⟩, hS.upd⟩
  skip
  have zw21 := hNx.size
  replace hS := hS.stp 3 rfl (stp_next hNx)
  obtain ⟨hk1, hk2, hu0⟩ := keyT_mem.1 hNx.mem
  subst hu0
  have hfr2 := hNx.fresh
  have hkk1 : 1 ≤ kk ∧ kk ≤ 11 := ⟨hk1, by omega⟩
  replace hk2 : kk ≤ 11 := by omega
  obtain ⟨j, hj⟩ : ∃ j, j = (kk - 1).toNat := ⟨_, rfl⟩
  have hj11 : j < 11 := by omega
  have hkk2 : kk = ((j + 1 : Nat) : Int) := by omega
  have hdl := nodup_le hds hdn
  obtain ⟨v, hvj⟩ := getElem?_of_lt (xs := vs) (i := j) oQ
  have hdk2 : (dn ++ [kk]).Nodup ∧ ∀ k ∈ dn ++ [kk], 1 ≤ k ∧ k ≤ 11 := ⟨List.nodup_append.2 ⟨hdk.1, by simp, fun a ha c hc => by simp at hc; subst hc; exact fun e => hfr2 (e ▸ ha)⟩, fun k hk => (List.mem_append.1 hk).elim (hdk.2 k) (fun h => by cases List.mem_singleton.1 h; exact hkk1)⟩
  refine LW.pp (.extract (.t rfl) rfl) (LW.S (CW.cond_true (.t rfl) (CW.skip (KW.then (CW.block (CW.seq ?_))))))
  skip
  refine CW.region (LW.rr (.entry (.t rfl) hNx.entry) rfl ?_)
  rintro _ _ ⟨rfl, rfl⟩
  refine LW.pp (.val (v' := .agg #[.func (.func (listFn kk)) #[] #[], .func (.func (ordFn kk)) #[] #[]]) (PEv.extract (.t rfl) rfl) rfl) (LW.rr (.allocA zeroValue124) rfl ?_)
  rintro _ w23 ⟨B17, rfl, MB17⟩
  refine LW.E (.storeA sizeOf124 rfl (.t rfl) (.t rfl) eQ MB17.blk rfl) ?_
  intro w24 LB17
  have NB17 := MB17.set LB17
  replace hS := hS.addB NB17
  refine LW.T (CW.free 7 [.eq (.pointer (some ⟨B17, 0, none⟩)), .eq (.func (.func (listFn kk)) #[] #[]), .eq (.pointer (some ⟨B11, j, none⟩)), .eq (.pointer (some ⟨B11, j, none⟩)), .eq (v), .eq (.pointer (some ⟨B17, 1, none⟩)), .eq (.func (.func (ordFn kk)) #[] #[])] [86, 88] kQ rfl kQ kQ kQ kQ kQ kQ kQ ⟨PhU.eq _, PhU.eq _, PhU.eq _, PhU.eq _, PhU.eq _, PhU.eq _, PhU.eq _, trivial⟩ ?_ ?_)
  ·intro W hU0
   have hU := (Up.drew w24).trans hU0
   refine aC ⟨rfl, TU.p (.fA 0 underlying124 rfl sizeOf121 rfl) rfl⟩ (aC ⟨rfl, TU.p (.ld isAgg121 rfl (((hS.blk 5 rfl).up hU).celln rfl)) rfl⟩ (aC ⟨rfl, TU.c (enter_callv (.t rfl) (.cons (.t rfl) .nil) (list_en kk hk1 hk2)) (list_any kk hk1 hk2 B11 _) (by rintro _ W1 ⟨rfl, u⟩; exact ⟨u, by rw [hj]; rfl⟩)⟩ (aC ⟨rfl, TU.p (.nilCheck (.t rfl)) rfl⟩ (aC ⟨rfl, TU.p (.ld isAgg26 rfl (((hS.blk 2 rfl).up hU).cell (by simpa using hvj))) rfl⟩ (aC ⟨rfl, TU.p (.fA 1 underlying124 rfl sizeOf122 rfl) rfl⟩ (aC ⟨rfl, TU.p (.ld isAgg122 rfl (((hS.blk 5 rfl).up hU).celln rfl)) rfl⟩ ?_))))))
   exact allL.nil
  intro w25 g hU0 hg
  have hU := (Up.drew w24).trans hU0
  replace hS := hS.up hU
  have e86 : g 86 = v := hg 4 _ 86 cQ rfl rfl
  have e88 : g 88 = .func (.func (ordFn kk)) #[] #[] := hg 6 _ 88 cQ rfl rfl
  change LW _ _ _ _ _ _ _ _ ((86, .eq (g 86)) :: (88, .eq (g 88)) :: _) _
  rw [e86, e88]
  refine LW.K (eC (.u rfl rfl) (en66)) rfl (sorted_any (ordFn kk) (ordK kk) (ord_en kk hk1 hk2) (fun W x => ord_any kk hk1 hk2 x W) v (lstAt dn ds j) _ (lists_own (hS.get 4 rfl) hvj (byK_get _ _ hj11)) (by have := lst_len dn ds j; omega)) ?_
  rintro _ w26 ⟨rfl, hSo⟩
  replace hS := hS.stp 4 rfl (aAnd_stp (hS.get 4 rfl) (lists_get hvj (byK_get _ _ hj11)) hSo)
  rw [lists_set, set_same hvj, hkk2] at hS
  refine LW.nil (KW.inBlock (KW.round ?_))
  exact ⟨dn ++ [kk], ⟨hdk2, by rw [hkk2, ← byK_sort hj11 (by rw [← hkk2]; exact hfr2)]; exact hS.take 5⟩, ⟨rfl, rfl, rfl, trivial⟩, by have := eleven_lt hdk hkk1 hfr2; simp; omega⟩
 skip
 have zw18 := hNx.size
 replace hS := hS.stp 1 rfl (Ms.stp_next hNx)
 obtain ⟨⟨kx, x⟩, hmem0, he0⟩ := List.mem_map.1 hNx.mem
 cases he0
 obtain ⟨hkx, hxv⟩ := hMo _ hmem0
 dsimp only at hkx hxv
 subst hkx
 have hmem := hmem0
 have hfr := hNx.fresh
 have hk12 : 1 ≤ x.Kind ∧ x.Kind ≤ 11 := valid_kind hxv
 have hds2 : ∀ f ∈ ds ++ [x], (keyB f, f) ∈ M := fun f hf => (List.mem_append.1 hf).elim (hds f) (fun h => by cases List.mem_singleton.1 h; exact hmem)
 have hdn2 : ((ds ++ [x]).map keyB).Nodup := nodup_snoc hdn hfr
 obtain ⟨j, hj⟩ : ∃ j, j = (x.Kind - 1).toNat := ⟨_, rfl⟩
 have hj11 : j < 11 := by omega
 have hkj : x.Kind = ((j + 1 : Nat) : Int) := by omega
 have hdl := nodup_le hds hdn
 have hdl2 := nodup_lt hds hdn hmem hfr
 refine LW.pp (.extract (.t rfl) rfl) (LW.S (CW.cond_true (.t rfl) (CW.skip (KW.then (CW.block (CW.S (LW.rr (Ms.REv.entry (.t rfl) hNx.entry) rfl ?_)))))))
 rintro _ _ ⟨rfl, rfl⟩
 refine LW.pp (.extract (.t rfl) rfl) (LW.rr (.allocA zeroValue24) rfl ?_)
 rintro _ w27 ⟨B14, rfl, MB14⟩
 refine LW.E (.storeA sizeOf24 rfl (.t rfl) (.t rfl) eQ MB14.blk rfl) ?_
 intro w28 LB14
 have NB14 := MB14.set LB14
 replace hS := hS.addB NB14
 refine LW.S ?_
 cases hq16 : x.Gone with
 | true =>
  have hgn := hq16
  refine CW.region (LW.pp (.fA 4 underlying24 rfl sizeOf4 rfl) (LW.pp (.ld isAgg4 rfl ((hS.blk 5 rfl).celln rfl)) (LW.pp (.fa (PEv.not (.t rfl)) (by rw [hq16]; rfl)) (LW.T (CW.cond_false (.t rfl) (CW.skip (KW.inBlock (KW.round ?_))))))))
  exact ⟨(ds ++ [x], vs), ⟨hds2, hdn2, hvl, by (rw [byK_gone hgn, List.map_append]; exact hS.take 5)⟩, ⟨rfl, rfl, rfl, rfl, trivial⟩, by show M.length - (ds ++ [x]).length < M.length - ds.length; have := nodup_lt hds hdn hmem hfr; simp; omega⟩
 | false =>
  have hgn := hq16
  refine CW.region (LW.pp (.fA 4 underlying24 rfl sizeOf4 rfl) (LW.pp (.ld isAgg4 rfl ((hS.blk 5 rfl).celln rfl)) (LW.pp (.tr (PEv.not (.t rfl)) (by rw [hq16]; rfl)) (LW.T (CW.cond_true (.t rfl) (CW.S (LW.M rfl (LW.pp (.fA 0 underlying24 rfl sizeOf3 rfl) (LW.pp (.ld isAgg3 rfl ((hS.blk 5 rfl).celln rfl)) (LW.pp (.val (v' := .agg #[.func (.func (listFn x.Kind)) #[] #[], .func (.func (ordFn x.Kind)) #[] #[]]) (PEv.lookupYes (ok := false) underlying119 underlying3 (.t rfl) (.t rfl) (hS.get 3 rfl) (keyT_mem.2 ⟨hk12.1, (show x.Kind ≤ ((11 : Nat) : Int) from by omega), rfl⟩)) rfl) (LW.pp (.field1 (off := 0) underlying124 rfl rfl isAgg121 (.t rfl) rfl) (LW.K (enter_callv (.t rfl) (.cons (.t rfl) .nil) (list_en x.Kind hk12.1 hk12.2)) rfl (list_any x.Kind hk12.1 hk12.2 B11 _) ?_))))))))))))
  rintro _ w29 ⟨rfl, uw29⟩
  replace hS := hS.up uw29
  rw [← hj]
  refine LW.A rfl (LW.T ?_)
  obtain ⟨v, hvj⟩ := getElem?_of_lt (xs := vs) (i := j) oQ
  refine CW.draws_heavy 6 (fun v w'' => Wx.Sep no w0 w'' [aBlk B4 #[.slice none 0 0, .slice none 0 0, .slice none 0 0, .slice none 0 0, .slice none 0 0, .slice none 0 0, .slice none 0 0, .slice none 0 0, .slice none 0 0, .slice none 0 0, .slice none 0 0] 32, Ms.aIRng B18 r54 (encM M) (ds.map keyB ++ [keyB x]), aBlk B11 vs.toArray 32, aIMap bk (keyT KdV 11), aAnd ((lists 24 19 Fact.cells vs (byK [] ds)).set j (aOwn 24 19 Fact.cells v (lstAt [] ds j ++ [x]))), aBlk B14 x.cells 24]) kQ kQ kQ kQ kQ kQ rfl rfl rfl rfl rfl (HW.pp (.move (.t rfl)) (HW.pp (.move (.t rfl)) (HW.pp (.nilCheck (.t rfl)) (HW.pp (.ld isAgg26 rfl ((hS.blk 2 rfl).cell (by simpa using hvj))) (HW.pp (.la isAgg24 sizeOf24 rfl ((hS.blk 5 rfl).agg)) (HW.r (p := fun v w => Sl w v 19 (Fact.cells) [x]) (fun _ _ _ h u => Sl.up h u) rfl (fun w hu a ha => let ⟨v, w', h1, h2⟩ := REv.buildSlice (xs := [x]) (enc := Fact.cells) (mk := fun f : Fact => .agg f.cells) underlying26 sizeOf24 zeroValue24 rfl (zQ rfl) (fun _ => rfl) (fun _ => rfl) (.cons (.t rfl) .nil) rfl a ha; ⟨v, w', h1, h2.q⟩) rfl (HW.nil ⟨fun a w' hu ha => ?_, ?_⟩)))))))
  ·exact (REv.open (d := 73) (p := fun v w => Sl w v 19 Fact.cells [x]) rfl fun vv hv => (REv.appendF (bytes := 160) (i := Tryz.t24) underlying26 kQ rfl rfl rfl rfl cQ (fun _ => rfl) Fact.one (.t rfl) (.t rfl) (lists_own ((hS.up hu).get 4 rfl) hvj (byK_get _ _ hj11)) hv (by have := lst_len [] ds j; simp only [List.length_cons, List.length_nil, maxLen]; omega) (by have := lst_len [] ds j; simp only [List.length_cons, List.length_nil]; omega)).mono fun v' w'' h => (hS.up hu).stp 4 rfl (aAnd_stp ((hS.up hu).get 4 rfl) (lists_get hvj (byK_get _ _ hj11)) h)).y ha
  intro v74 w30 hS
  have hv1 : v74.oneCell' = true := by
   have h := hS.get 4 rfl
   rw [lists_set] at h
   exact lists_one h (by rw [List.length_set, List.length_set, hvl, byK_len]) v74 (List.mem_of_getElem? (i := j) (by rw [List.getElem?_set_self (by omega)]))
  refine LW.pp (.nilCheck (.t rfl)) (LW.E (.store sizeOf26 (.t rfl) (.t rfl) hv1 (hS.blk 2 rfl) (by simp; omega)) ?_)
  intro w31 Nw31
  have zw31 := Nw31.size
  replace hS := hS.putB 2 rfl (by rw [set_arr] at Nw31; exact Nw31)
  refine LW.nil (KW.inBlock (KW.round ?_))
  exact ⟨(ds ++ [x], vs.set j v74), ⟨hds2, hdn2, by show (vs.set j v74).length = 11; rw [List.length_set]; exact hvl, by (rw [byK_add hgn hj11 hkj, ← lists_set, List.map_append]; exact hS.take 5)⟩, ⟨rfl, rfl, rfl, rfl, trivial⟩, by show M.length - (ds ++ [x]).length < M.length - ds.length; have := nodup_lt hds hdn hmem hfr; simp; omega⟩
end Go.Proofs.YtbbpkdlehlamlaaGreatDoor
namespace Go.Wx
theorem sortK_perm {α : Type} {key : α → K2} {l s : List α} (h : l.Perm s) (hd : ∀ x ∈ l, ∀ y ∈ l, key x = key y → x = y) : sortK key l = sortK key s := by
 have hs : sameF key l s := fun k => by
   have hp := h.filter (fun x => key x == k)
   cases e : l.filter (fun x => key x == k) with
   | nil => rw [e] at hp; exact hp.symm.eq_nil
   | cons x r =>
     have all : ∀ y ∈ l.filter (fun x => key x == k), y = x := fun y hy => by
       have hx : x ∈ l.filter (fun x => key x == k) := by rw [e]; exact List.mem_cons_self
       rw [List.mem_filter] at hx hy
       exact hd _ hy.1 _ hx.1 ((eq_of_beq hy.2).trans (eq_of_beq hx.2).symm)
     have h1 : l.filter (fun x => key x == k) = List.replicate (l.filter (fun x => key x == k)).length x := List.eq_replicate_iff.2 ⟨rfl, all⟩
     have h2 : s.filter (fun x => key x == k) = List.replicate (l.filter (fun x => key x == k)).length x := List.eq_replicate_iff.2 ⟨hp.length_eq.symm, fun y hy => all y (hp.symm.subset hy)⟩
     rw [h2, ← h1, e]
 have : StS key l (sortK key s) := ⟨(sortK_sts s).ord, hs.trans (sortK_sts s).same⟩
 exact this.eq.symm
theorem key_of_ord {k : Int} {f g : Fact} (hf : validB f = true) (hg : validB g = true) (hkf : f.Kind = k) (hkg : g.Kind = k) (h : ordK k f = ordK k g) : keyB f = keyB g := by
 have hk := valid_kind hf
 rw [hkf] at hk
 unfold keyB keyL
 rw [if_pos hf, if_pos hg, hkf, hkg]
 have hc : k = 1 ∨ k = 2 ∨ k = 3 ∨ k = 4 ∨ k = 5 ∨ k = 6 ∨ k = 7 ∨ k = 8 ∨ k = 9 ∨ k = 10 ∨ k = 11 := by omega
 rcases hc with rfl | rfl | rfl | rfl | rfl | rfl | rfl | rfl | rfl | rfl | rfl
 · replace h : (f.ID, (0 : Int)) = (g.ID, (0 : Int)) := h
   show encIs [1, f.ID] = encIs [1, g.ID]
   rw [(Prod.mk.inj h).1]
 · replace h : (f.ID, (0 : Int)) = (g.ID, (0 : Int)) := h
   show encIs [2, f.ID] = encIs [2, g.ID]
   rw [(Prod.mk.inj h).1]
 · replace h : (f.ID, (0 : Int)) = (g.ID, (0 : Int)) := h
   show encIs [3, f.ID] = encIs [3, g.ID]
   rw [(Prod.mk.inj h).1]
 · replace h : (f.Wafer, f.Time) = (g.Wafer, g.Time) := h
   show encIs [4, f.Wafer, f.Time] = encIs [4, g.Wafer, g.Time]
   rw [(Prod.mk.inj h).1, (Prod.mk.inj h).2]
 · replace h : (f.Product, (0 : Int)) = (g.Product, (0 : Int)) := h
   show encIs [5, f.Product] = encIs [5, g.Product]
   rw [(Prod.mk.inj h).1]
 · replace h : (f.ID, (0 : Int)) = (g.ID, (0 : Int)) := h
   show encIs [6, f.ID] = encIs [6, g.ID]
   rw [(Prod.mk.inj h).1]
 · replace h : (f.ID, (0 : Int)) = (g.ID, (0 : Int)) := h
   show encIs [7, f.ID] = encIs [7, g.ID]
   rw [(Prod.mk.inj h).1]
 · replace h : (f.Other, f.Parties) = (g.Other, g.Parties) := h
   show encIs [8, f.Other, f.Parties] = encIs [8, g.Other, g.Parties]
   rw [(Prod.mk.inj h).1, (Prod.mk.inj h).2]
 · replace h : (f.ID, (0 : Int)) = (g.ID, (0 : Int)) := h
   show encIs [9, f.ID] = encIs [9, g.ID]
   rw [(Prod.mk.inj h).1]
 · replace h : (f.Recipe, f.Time) = (g.Recipe, g.Time) := h
   show encIs [10, f.Recipe, f.Time] = encIs [10, g.Recipe, g.Time]
   rw [(Prod.mk.inj h).1, (Prod.mk.inj h).2]
 replace h : (f.ID, (0 : Int)) = (g.ID, (0 : Int)) := h
 show encIs [11, f.ID] = encIs [11, g.ID]
 rw [(Prod.mk.inj h).1]
theorem fset_keys (m : FMap) (k : List UInt8) (f : Fact) : (fset m k f).map (·.1) = if k ∈ m.map (·.1) then m.map (·.1) else m.map (·.1) ++ [k] := by
 unfold fset
 split
 · rw [List.map_map]
   apply List.map_congr_left
   intro p _
   simp only [Function.comp]
   split
   · rename_i e; exact e.symm
   rfl
 simp
theorem fset_nodup {m : FMap} (h : (m.map (·.1)).Nodup) (k : List UInt8) (f : Fact) : ((fset m k f).map (·.1)).Nodup := by
 rw [fset_keys]
 split
 · exact h
 rename_i hn
 rw [List.nodup_append]
 exact ⟨h, by simp, fun a ha c hc => by cases List.mem_singleton.1 hc; exact fun e => hn (e ▸ ha)⟩
theorem bestStep_nodup {m : FMap} (h : (m.map (·.1)).Nodup) (day : Int) (f : Fact) : ((bestStep day m f).map (·.1)).Nodup := by
 unfold bestStep
 split
 · exact h
 split
 · exact fset_nodup h _ _
 split
 · exact fset_nodup h _ _
 exact h
theorem best_nodup (l : List Fact) (day : Int) : ((bestL l day).map (·.1)).Nodup := by
 have : ∀ (l : List Fact) (m : FMap), (m.map (·.1)).Nodup → ((l.foldl (bestStep day) m).map (·.1)).Nodup := by
   intro l
   induction l with
   | nil => exact fun m h => h
   | cons x l ih => exact fun m h => ih _ (bestStep_nodup h day x)
 exact this l [] List.nodup_nil
theorem nodup_fst {m : FMap} (h : (m.map (·.1)).Nodup) {k : List UInt8} {f g : Fact} (hf : (k, f) ∈ m) (hg : (k, g) ∈ m) : f = g := by
 induction m with
 | nil => cases hf
 | cons p m ih =>
   rw [List.map_cons, List.nodup_cons] at h
   rcases List.mem_cons.1 hf with e | hf' <;> rcases List.mem_cons.1 hg with e' | hg'
   · rw [← e'] at e; cases e; rfl
   · exact absurd (List.mem_map.2 ⟨_, hg', by rw [← e]⟩) h.1
   · exact absurd (List.mem_map.2 ⟨_, hf', by rw [← e']⟩) h.1
   exact ih h.2 hf' hg'
def factsM (m : FMap) : List Fact := m.map (·.2)
theorem factsM_mem {m : FMap} (h : MOk m) {f : Fact} : f ∈ factsM m ↔ (keyB f, f) ∈ m := by
 constructor
 · intro hf
   obtain ⟨⟨k, g⟩, hp, e⟩ := List.mem_map.1 hf
   have e : g = f := e
   subst e
   have := (h _ hp).1
   have this : k = keyB g := this
   rw [← this]; exact hp
 exact fun hf => List.mem_map.2 ⟨_, hf, rfl⟩
theorem factsM_keys {m : FMap} (h : MOk m) : (factsM m).map keyB = m.map (·.1) := by
 unfold factsM
 rw [List.map_map]
 apply List.map_congr_left
 intro p hp
 exact (h p hp).1.symm
theorem nodup_of_map {α β : Type} {f : α → β} : ∀ {l : List α}, (l.map f).Nodup → l.Nodup
 | [], _ => List.nodup_nil
 | x :: l, h => by
   rw [List.map_cons, List.nodup_cons] at h
   exact List.nodup_cons.2 ⟨fun hm => h.1 (List.mem_map.2 ⟨x, hm, rfl⟩), nodup_of_map h.2⟩
theorem perm_of_mem {α : Type} {l s : List α} (hl : l.Nodup) (hs : s.Nodup) (h : ∀ x, x ∈ l ↔ x ∈ s) : l.Perm s := (List.perm_ext_iff_of_nodup hl hs).2 h
theorem best_perm {ds : List Fact} {m : FMap} (hm : MOk m) (hn : (m.map (·.1)).Nodup) (h : ∀ f ∈ ds, (keyB f, f) ∈ m) (hp : (ds.map keyB).Perm (m.map (·.1))) : ds.Perm (factsM m) := by
 refine perm_of_mem (nodup_of_map (f := keyB) (hp.nodup_iff.2 hn)) (nodup_of_map (f := keyB) (by rw [factsM_keys hm]; exact hn)) fun x => ?_
 rw [factsM_mem hm]
 refine ⟨h x, fun hx => ?_⟩
 obtain ⟨y, hy, e⟩ := List.mem_map.1 (hp.symm.subset (List.mem_map.2 ⟨_, hx, rfl⟩))
 have e : keyB y = keyB x := e
 have := h y hy
 rw [e] at this
 rw [nodup_fst hn hx this]; exact hy
theorem mem_of_key {m : FMap} (hm : MOk m) (hn : (m.map (·.1)).Nodup) {f g : Fact} (hf : f ∈ factsM m) (hg : g ∈ factsM m) (e : keyB f = keyB g) : f = g := by
 rw [factsM_mem hm] at hf hg
 rw [e] at hf
 exact nodup_fst hn hf hg
theorem lst_perm {m : FMap} (hm : MOk m) (hn : (m.map (·.1)).Nodup) {ds : List Fact} (h : ds.Perm (factsM m)) (dn : List Int) (j : Nat) (hj : ((j + 1 : Nat) : Int) ∈ dn) : lstAt dn ds j = lstAt dn (factsM m) j := by
 unfold lstAt
 rw [if_pos hj, if_pos hj]
 refine sortK_perm (h.filter _) fun x hx y hy e => ?_
 rw [List.mem_filter] at hx hy
 have hxm := h.subset hx.1
 have hym := h.subset hy.1
 have vx := (hm _ ((factsM_mem hm).1 hxm)).2
 have vy := (hm _ ((factsM_mem hm).1 hym)).2
 simp only [Bool.and_eq_true, decide_eq_true_eq] at hx hy
 exact mem_of_key hm hn hxm hym (key_of_ord vx vy hx.2.2 hy.2.2 e)
def ofB (l : List Fact) (day : Int) : Base := baseL (factsM (bestL l day))
theorem ofB_eq {ds : List Fact} {l : List Fact} {day : Int} (h : ∀ f ∈ ds, (keyB f, f) ∈ bestL l day) (hp : (ds.map keyB).Perm ((bestL l day).map (·.1))) : baseL ds = ofB l day := by
 have hm := (best_ok day l).1
 have hn := best_nodup l day
 have h1 := best_perm hm hn h hp
 unfold ofB baseL
 rw [lst_perm hm hn h1 [1] 0 cQ, lst_perm hm hn h1 [2] 1 cQ, lst_perm hm hn h1 [3] 2 cQ, lst_perm hm hn h1 [4] 3 cQ, lst_perm hm hn h1 [5] 4 cQ, lst_perm hm hn h1 [6] 5 cQ, lst_perm hm hn h1 [7] 6 cQ, lst_perm hm hn h1 [8] 7 cQ, lst_perm hm hn h1 [9] 8 cQ, lst_perm hm hn h1 [10] 9 cQ, lst_perm hm hn h1 [11] 10 (by decide)]
end Go.Wx
namespace Go.Proofs.YtbbpkdlehlamlaaGreatDoor
open Go.Proofs.Tryz
open Go.Wx Go.RowKit
theorem Of_any (ad : Option Addr) (cp : Nat) (l : List Fact) (day : Int) (w : World) (hE0 : Els w ad 19 Fact.cells l) (hl : l.length ≤ 100000) : Ret prog 32 #[.slice ad l.length cp, vi day] w fun r w' => ∃ bc, r = .agg bc ∧ BaseC w' bc (ofB l day) ∧ Up w w' :=
 (Of_walk ad cp l day w hE0 hl).mono fun _ _ ⟨bc, _, e, hB, h1, h2, _, _, u⟩ => ⟨bc, e, ofB_eq h1 h2 ▸ hB, u⟩
theorem Of_own (ad : Option Addr) (cp : Nat) (l : List Fact) (day : Int) (w : World) (hE0 : Els w ad 19 Fact.cells l) (hl : l.length ≤ 100000) : Ret prog 32 #[.slice ad l.length cp, vi day] w fun r w' => ∃ bc, r = .agg bc ∧ BaseC w' bc (ofB l day) ∧ BaseB w.heap.size bc ∧ Up w w' :=
 (Of_walk ad cp l day w hE0 hl).mono fun _ _ ⟨bc, _, e, hB, h1, h2, h3, _, u⟩ => ⟨bc, e, ofB_eq h1 h2 ▸ hB, h3, u⟩
end Go.Proofs.YtbbpkdlehlamlaaGreatDoor
end
