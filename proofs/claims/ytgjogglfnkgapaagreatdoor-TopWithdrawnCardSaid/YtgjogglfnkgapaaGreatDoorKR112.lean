import Derived.Test.YtgjogglfnkgapaaGreatDoorKR111
namespace Go.Wx
def Mm (a b : Int) : Int := if a < b then -1 else if b < a then 1 else 0
def rX : List Int → Int
 | [] => 0
 | x :: l => if x = 0 then rX l else x
def bT (p q : K2) : Int := rX [Mm p.1 q.1, Mm p.2 q.2]
theorem Hz (p q : K2) : decide (bT p q < 0) = Hu p q := by
 unfold bT rX rX rX Mm Hu
 by_cases h1 : p.1 < q.1
 · simp [h1]
 by_cases h2 : q.1 < p.1
 · have : ¬ p.1 = q.1 := by omega
   simp [h1, h2, this]
 have e : p.1 = q.1 := by omega
 by_cases h3 : p.2 < q.2
 · simp [e, h3]
 by_cases h4 : q.2 < p.2
 · simp [e, h3, h4]
 simp [e, h3, h4]
theorem Yx {l : List Int} {k : Nat} {x : Int} (h : l[k]? = some x) : rX (l.drop k) = if x = 0 then rX (l.drop (k + 1)) else x := by
 obtain ⟨hk, e⟩ := List.getElem?_eq_some_iff.1 h
 rw [List.drop_eq_getElem_cons hk, e]; rfl
theorem oE (p : K2) : (#[vi p.1, vi p.2] : Array Go.Value).size = 2 ∧ (#[vi p.1, vi p.2] : Array Go.Value).all (·.oneCell') = true := by simp [Value.oneCell']
theorem L4 {p q r t : Nat} (h : (decide ((p : Int) < (q : Int)) && decide ((r : Int) < (t : Int))) = true) : p < q ∧ r < t := by
 obtain ⟨h1, h2⟩ := Bool.and_eq_true_iff.1 h
 have h1 := of_decide_eq_true h1
 have h2 := of_decide_eq_true h2
 omega
theorem bU {p q r t : Nat} (h : (decide ((p : Int) < (q : Int)) && decide ((r : Int) < (t : Int))) = false) : ¬ (p < q ∧ r < t) := fun ⟨h1, h2⟩ => by
 rw [decide_eq_true oQ, decide_eq_true (by omega)] at h
 cases h
theorem oF {α : Type} {xs : List α} {a b : Nat} {x : α} (hx : xs[a]? = some x) (h : a < b) (hb : b ≤ xs.length) : C3 xs a b = x :: C3 xs (a + 1) b := by
 rw [F8 (m := a + 1) oQ oQ hb, Lk (Nat.le_refl a) hx, F9 (Nat.le_refl a)]; rfl
theorem Ra {z : Nat} (h : z < 18446744073709551616) : Go.Value.int .u64 (IntKind.u64.wrap (z : Int)) = vu z := by
 rw [E3]
 unfold vu
 congr 1
 omega
theorem Rb {z : Nat} (h : z < 9223372036854775808) : Go.Value.int .i64 (IntKind.i64.wrap (z : Int)) = vi (z : Int) := by
 rw [Ce oQ (by omega)]
theorem Oo {z : Nat} : Go.Value.int .u64 ((z : Int).fdiv (2 ^ (min 1 IntKind.u64.bits))) = vu (z / 2) := by
 have e1 : min 1 IntKind.u64.bits = 1 := rfl
 rw [e1, Int.fdiv_eq_ediv_of_nonneg _ (by decide)]
 unfold vu
 congr 1
theorem Sm {z : Nat} (h : 2 * z < 9223372036854775808) : Go.Value.int .i64 (IntKind.i64.wrap (2 * (z : Int))) = vi ((2 * z : Nat) : Int) := by
 rw [Ce oQ oQ, Int.natCast_mul]; rfl
theorem Vm {z : Nat} (h : 2 * z < 9223372036854775808) : Go.Value.int .i64 (IntKind.i64.wrap ((z : Int) * 2)) = vi ((2 * z : Nat) : Int) := by
 rw [Int.mul_comm]; exact Sm h
theorem zN {a b : Nat} (h : a = b) : vi (a : Int) = vi (b : Int) := by rw [h]
def J8 (k : Int) (f : Fact) : K2 := match k with
 | 4 => (f.Wafer, f.Time)
 | 5 => (f.Product, 0)
 | 8 => (f.Other, f.Parties)
 | 10 => (f.Recipe, f.Time)
 | _ => (f.ID, 0)
end Go.Wx
namespace Go.Proofs.YtgjogglfnkgapaaGreatDoor
open Go.Proofs.Tryz
open Go.Wx Go.RowKit
theorem Vn (a : Int) (w : World) : Ret prog 162 #[vi a] w fun r w' => r = .bool false ∧ Up w w' := by
 have hW := Up.refl w
 refine cT 6 func162 rfl (Af (Ay (Ao (Aa (Ab rfl (Ab rfl (I (.fa (PEv.neq (.t rfl) (.t rfl)) (by simp)) (LW.A rfl (Ai (Ak (KW.q ?_)))))))))))
 exact ⟨rfl, hW⟩
theorem Nh (a b : Int) (w : World) : Ret prog 70 #[vi a, vi b] w fun r w' => r = vi (Mm a b) ∧ Up w w' := by
 have hW := Up.refl w
 refine cT 20 func70 rfl (Af (Ay (Ao (Aa (Ab rfl (A3 (eC (.o rfl) (xC)) rfl (Vn _ _) ?_))))))
 rintro _ w1 ⟨rfl, uw1⟩
 replace hW := hW.up uw1
 refine LW.A rfl (Ao (Aa (Ab rfl (A3 (eC (.o rfl) (xC)) rfl (Vn _ _) ?_))))
 rintro _ w2 ⟨rfl, uw2⟩
 replace hW := hW.up uw2
 refine LW.A rfl (Ao (Af (Ab rfl (Ai (CW.f rfl (Aj (Ac (Am (Af (Ab rfl (Ai (CW.f rfl (Aj (Ac (Am (Af (Ab rfl (Ab rfl (I (.l2 rfl rfl) (Ai (CW.b rfl (fun h16 => ?_) (fun h16 => ?_))))))))))))))))))))))
 ·replace h16 := dQ h16
  refine Af (Ay (Ai (Ak (Ap (KW.q ?_)))))
  refine ⟨congrArg vi ?_, hW⟩
  unfold Mm
  (rw [if_pos (by omega)])
 replace h16 := dQ h16
 refine Aj (Ac (Am (Af (Ab rfl (Ab rfl (I (.gtr (.t rfl) (.t rfl)) (Ai (CW.b rfl (fun h19 => ?_) (fun h19 => ?_)))))))))
 ·replace h19 := dQ h19
  refine Af (Ay (Ai (Ak (Ap (KW.q ?_)))))
  refine ⟨congrArg vi ?_, hW⟩
  unfold Mm
  (rw [if_neg oQ, if_pos (by omega)])
 replace h19 := dQ h19
 refine Aj (Ac (Af (Ay (Ai (Ak (KW.q ?_))))))
 refine ⟨congrArg vi ?_, hW⟩
 unfold Mm
 (rw [if_neg oQ, if_neg (by omega)])
theorem zO (ad : Option Addr) (cp : Nat) (l : List Int) (w : World) (hE0 : Els w ad 1 Br l) (hl : l.length ≤ 1000) : Ret prog 69 #[.slice ad l.length cp] w fun r w' => r = vi (rX l) ∧ Up w w' := by
 have hW := Up.refl w
 obtain ⟨w0, rfl, _⟩ := W0 w
 refine cT 18 func69 rfl (Af (Ay (Ao (Aa (Ay (Ao (Af (Ab rfl (I (.Di underlying34 (.t rfl)) (I (.move (.const _)) (Ai (An (A8 (σ := Nat) (fun s w => (s ≤ l.length) ∧ (rX l = rX (l.drop s)) ∧ (Up w0 w)) (fun s => [(8, .eq (vi (s : Int)))]) ([(3, .eq _), (6, .eq _), (7, .eq _)]) (fun s => l.length - s) 0 ?_ tQ ?_)))))))))))))
 ·exact ⟨Nat.zero_le _, rfl, Up.refl _⟩
 rintro k w1 ⟨hkk, hor, hL1⟩
 replace hW := hW.up hL1
 refine Af (I (.l2 rfl rfl) (Ao (CW.b rfl (fun h9 => ?_) (fun h9 => ?_))))
 ·refine Aj (Ac (Am (An (Am ?_))))
  have hE := Els.up hE0 hW
  have hkl : k < l.length := by simp at h9; omega
  refine Aa ?_
  obtain ⟨x, hx⟩ := Au (xs := l) (i := k) oQ
  obtain ⟨Bx, ox, ax, hcx⟩ := hE _ x hx
  refine I (.Av underlying34 sizeOf3 (.t rfl) (.t rfl) oQ ax) (I (.lb rfl (hcx.nth (j := 0) rfl)) (LW.A rfl (Ao (Aa (Ab rfl (Ab rfl (I (.neq (.t rfl) (.t rfl)) (Ai (CW.b rfl (fun h14 => ?_) (fun h14 => ?_))))))))))
  ·refine Af (Ab rfl (LW.A rfl (Ai (Ak (A9 (Ap (Ap (A9 (Ap (KW.q ?_))))))))))
   refine ⟨congrArg vi ?_, hW⟩
   rw [hor]
   (rw [Yx hx, if_neg (by simpa using h14)])
  refine Aj (Ae (Ac (Aa (I (.ic rfl oQ) (Ab rfl (LW.nil (Ar ?_)))))))
  exact ⟨k + 1, ⟨by omega, by rw [hor, Yx hx, if_pos (by simpa using h14)], hL1⟩, tQ, by omega⟩
 refine Bl (Ad (Ad (Aq (Ac (Af (Ab rfl (LW.A rfl (Ai (Ak (KW.q ?_))))))))))
 refine ⟨congrArg vi ?_, hW⟩
 rw [hor]
 (rw [List.drop_eq_nil_of_le (by simp at h9; omega)]; rfl)
theorem jU (of : Nat) (key : Fact → K2) (hen : ∀ args w, (callFunc of args).run Tryz.prog w = .ok (.enter of args) w) (hord : ∀ W x, Ret Tryz.prog of #[.agg x.cells] W fun r W' => r = .agg #[vi (key x).1, vi (key x).2] ∧ Up W W') (a b : Fact) (Bc : Nat) (w : World) (hC0 : Blk w Bc #[.func (.func of) #[] #[]] 135) : Ret prog 147 #[.agg a.cells, .agg b.cells, .pointer (some ⟨Bc, 0, none⟩)] w fun r w' => r = vi (bT (key a) (key b)) ∧ Up w w' := by
 have hW := Up.refl w
 have hC := hC0
 refine cT 26 func147 rfl (Af (Al (.bA rfl) rfl ?_))
 rintro _ w1 ⟨B3, rfl, NB3⟩
 replace hW := hW.up NB3.up
 replace hC := hC.up NB3.up
 have hB3 := NB3.blk
 refine Al (.bA rfl) rfl ?_
 rintro _ w2 ⟨B4, rfl, NB4⟩
 replace hW := hW.up NB4.up
 replace hC := hC.up NB4.up
 replace hB3 := hB3.up NB4.up
 have hB4 := NB4.blk
 refine Ay (Ao (CW.vars 10 [⟨6, 8, 2, 6, 10⟩, ⟨7, 9, 5, 7, 13⟩] #[vi 0, vi 0] [.eq (.func (.func of) #[] #[]), .eq (.agg a.cells), .eq (.agg #[vi (key a).1, vi (key a).2]), .eq (.func (.func of) #[] #[]), .eq (.agg b.cells), .eq (.agg #[vi (key b).1, vi (key b).2]), .pred fun v _ => ∃ B, v = .pointer (some ⟨B, 0, none⟩), .pred fun v _ => ∃ B, v = .pointer (some ⟨B, 0, none⟩), .eq undef, .eq undef] [6, 7] zeroValue157 sizeOf157 kQ rfl kQ kQ kQ kQ kQ kQ kQ kQ cQ kQ kQ ?_ ?_ ⟨PhT.eq _ _, PhT.eq _ _, PhT.eq _ _, PhT.eq _ _, PhT.eq _ _, PhT.eq _ _, PhT.pred fun _ _ _ h _ => h, PhT.pred fun _ _ _ h _ => h, PhT.eq _ _, PhT.eq _ _, trivial⟩ ?_ ?_ ?_ ?_ ?_))
 ·intro v hv; simp only [List.mem_cons, List.mem_nil_iff, or_false] at hv; rcases hv with rfl | rfl <;> exact ⟨_, _, _, rfl⟩
 ·intro v hv; simp only [List.mem_cons, List.mem_nil_iff, or_false] at hv; rcases hv with rfl | rfl <;> exact ⟨_, _, _, rfl⟩
 ·intro v hv; simp only [List.mem_cons, List.mem_nil_iff, or_false] at hv; rcases hv with rfl | rfl <;> (intro o ho; cases ho; rfl)
 ·intro v hv; simp only [List.mem_cons, List.mem_nil_iff, or_false] at hv; rcases hv with rfl | rfl
  ·exact fun v W h => ⟨_, h, rfl, (oE (key a)).2⟩
  exact fun v W h => ⟨_, h, rfl, (oE (key b)).2⟩
 ·intro v hv; simp only [List.mem_cons, List.mem_nil_iff, or_false] at hv; rcases hv with rfl | rfl <;> exact fun B W => ⟨B, rfl⟩
 ·intro W hK0
  have hK := (Up.drew w2).Df.trans hK0
  have hCW := Blk.Df hC (T := 157) rfl hK
  have hB3W := Blk.Df hB3 (T := 157) rfl hK
  have hB4W := Blk.Df hB4 (T := 157) rfl hK
  refine aC (.inr ⟨rfl, TU.p (.lb rfl (hCW.Ah rfl)) rfl⟩) (aC (.inr ⟨rfl, TU.p (.lc rfl (hB3W.agg)) rfl⟩) (aC (.inr ⟨rfl, TU.c (Fy (.t rfl) (.cu rfl) hen) (hord _ a) sQ⟩) (aC (.inr ⟨rfl, TU.p (.lb rfl (hCW.Ah rfl)) rfl⟩) (aC (.inr ⟨rfl, TU.p (.lc rfl (hB4W.agg)) rfl⟩) (aC (.inr ⟨rfl, TU.c (Fy (.t rfl) (.cu rfl) hen) (hord _ b) sQ⟩) (aC (.inl (by simp)) (aC (.inl (by simp)) (aC (.inl (by simp)) (aC (.inl (by simp)) ?_)))))))))
  exact allL.nil
 intro wT g hU0 hbl hpw hg
 have hU := (Up.drew w2).trans hU0
 obtain ⟨B6, e6, z6, hB6⟩ := hbl ⟨6, 8, 2, 6, 10⟩ (by simp)
 obtain ⟨B7, e7, z7, hB7⟩ := hbl ⟨7, 9, 5, 7, 13⟩ (by simp)
 have e10 : g 10 = .agg #[vi (key a).1, vi (key a).2] := hg 2 _ 10 cQ rfl rfl
 have e13 : g 13 = .agg #[vi (key b).1, vi (key b).2] := hg 5 _ 13 cQ rfl rfl
 replace e6 : g 6 = .pointer (some ⟨B6, 0, none⟩) := e6
 replace e7 : g 7 = .pointer (some ⟨B7, 0, none⟩) := e7
 change LW _ _ _ _ _ _ _ _ ((6, .eq (g 6)) :: (7, .eq (g 7)) :: _) _
 rw [e6, e7]
 rw [e10] at hB6
 rw [e13] at hB7
 replace hB6 : Blk wT B6 #[vi (key a).1, vi (key a).2] 157 := hB6
 replace hB7 : Blk wT B7 #[vi (key b).1, vi (key b).2] 157 := hB7
 replace hW := hW.trans hU
 refine Ao (Ht 11 [.eq (.pointer (some ⟨B6, 0, none⟩)), .eq (vi (key a).1), .eq (.pointer (some ⟨B7, 0, none⟩)), .eq (vi (key b).1), .eq (vi (Mm (key a).1 (key b).1)), .eq (.pointer (some ⟨B6, 1, none⟩)), .eq (vi (key a).2), .eq (.pointer (some ⟨B7, 1, none⟩)), .eq (vi (key b).2), .eq (vi (Mm (key a).2 (key b).2)), .pred (fun v w => SlT 3 w v 1 Br [Mm (key a).1 (key b).1, Mm (key a).2 (key b).2])] [24] kQ rfl kQ kQ kQ kQ kQ kQ kQ ⟨PhU.eq _, PhU.eq _, PhU.eq _, PhU.eq _, PhU.eq _, PhU.eq _, PhU.eq _, PhU.eq _, PhU.eq _, PhU.eq _, PhU.pred fun _ _ _ h u => SlT.G3 h u.G3, trivial⟩ ?_ ?_)
 ·intro W hU0
  have hU := (Up.drew wT).trans hU0
  refine aC ⟨rfl, TU.p (.Ch (j := 0) underlying157 sizeOf3 (.t rfl) (.const _) cQ) rfl⟩ (aC ⟨rfl, TU.p (.lb rfl ((hB6.up hU).Ah rfl)) rfl⟩ (aC ⟨rfl, TU.p (.Ch (j := 0) underlying157 sizeOf3 (.t rfl) (.const _) cQ) rfl⟩ (aC ⟨rfl, TU.p (.lb rfl ((hB7.up hU).Ah rfl)) rfl⟩ (aC ⟨rfl, TU.c (eC (.u rfl rfl) (yR)) (Nh _ _ _) sQ⟩ (aC ⟨rfl, TU.p (.Ch (j := 1) underlying157 sizeOf3 (.t rfl) (.const _) cQ) rfl⟩ (aC ⟨rfl, TU.p (.lb rfl ((hB6.up hU).Ah rfl)) rfl⟩ (aC ⟨rfl, TU.p (.Ch (j := 1) underlying157 sizeOf3 (.t rfl) (.const _) cQ) rfl⟩ (aC ⟨rfl, TU.p (.lb rfl ((hB7.up hU).Ah rfl)) rfl⟩ (aC ⟨rfl, TU.c (eC (.u rfl rfl) (yR)) (Nh _ _ _) sQ⟩ (aC ⟨rfl, TU.r (REv.buildSlice (xs := [Mm (key a).1 (key b).1, Mm (key a).2 (key b).2]) (enc := Br) (mk := vi) underlying34 sizeOf3 zeroValue3 rfl cQ (fun _ => rfl) (fun _ => rfl) (.ct rfl (.cu rfl)) rfl) (by rintro _ W1 ⟨B, c, rfl, N, y, x⟩; exact ⟨N.up, SlT.lit ⟨B, c, rfl, N, y, x⟩⟩)⟩ ?_))))))))))
  exact allL.nil
 intro w3 g hU0 hg
 have hU := (Up.drew wT).trans hU0
 replace hW := hW.up hU
 replace hB6 := hB6.up hU
 replace hB7 := hB7.up hU
 obtain ⟨⟨ad, cp, e24, hE⟩, _⟩ := hg 10 _ 24 cQ rfl rfl
 change LW _ _ _ _ _ _ _ _ ((24, .eq (g 24)) :: _) _
 rw [e24]
 refine A3 (eC (.o rfl) (JD)) rfl (zO ad cp _ _ hE (by simp)) ?_
 rintro _ w4 ⟨rfl, uw4⟩
 replace hW := hW.up uw4
 replace hB6 := hB6.up uw4
 replace hB7 := hB7.up uw4
 refine LW.A rfl (Ai (Ak (KW.q ?_)))
 exact ⟨rfl, hW⟩
theorem Jy (a b n : Nat) (fv : Go.Value) (g m cp : Nat) (xs : List Fact) (w : World) (ho : OwnS w 0 28 19 Fact.cells (.slice (some ⟨g, 0, none⟩) m cp) xs) (h63 : m ≤ 1000000000) (h1 : a + n ≤ b) (h2 : b + n ≤ m) : Ret prog 386 #[.slice (some ⟨g, 0, none⟩) m cp, vi (a : Int), vi (b : Int), vi (n : Int), fv] w fun r w' => r = .tuple #[] ∧ Stp (J 28 19 Fact.cells (.slice (some ⟨g, 0, none⟩) m cp) (xs)) (J 28 19 Fact.cells (.slice (some ⟨g, 0, none⟩) m cp) (Ua xs a b n)) w w' := by
 obtain ⟨w0, rfl, _⟩ := W0 w
 have hxl := ho.len
 have hS : Wx.Sep (J 28 19 Fact.cells (.slice (some ⟨g, 0, none⟩) m cp) (xs)).foot w0 w0 [J 28 19 Fact.cells (.slice (some ⟨g, 0, none⟩) m cp) (xs)] := Sep.cons ho (fun _ h => h) (Sep.start _ _) (by simp)
 refine cT 38 func386 rfl (Af (Ay (Ai (An (A8 (σ := Nat) (fun s w => (s ≤ n) ∧ (Wx.Sep (J 28 19 Fact.cells (.slice (some ⟨g, 0, none⟩) m cp) (xs)).foot w0 w [J 28 19 Fact.cells (.slice (some ⟨g, 0, none⟩) m cp) (Ua xs a b s)])) (fun s => [(10, .eq (vi (s : Int)))]) ([(0, .eq _), (1, .eq _), (2, .eq _), (3, .eq _)]) (fun s => n - s) 0 ?_ tQ ?_)))))
 ·exact ⟨Nat.zero_le _, hS⟩
 rintro i w1 ⟨hin, hS⟩
 refine Am (Af (Ab rfl (Ab rfl (I (.l2 rfl rfl) (Ai (CW.b rfl (fun h13 => ?_) (fun h13 => ?_)))))))
 ·refine Aj (Ac (Am (An ?_)))
  have hil : i < n := by simp at h13; omega
  have hsl := F0 xs a b i
  obtain ⟨x, hx⟩ := Au (xs := Ua xs a b i) (i := a + i) oQ
  obtain ⟨y, hy⟩ := Au (xs := Ua xs a b i) (i := b + i) oQ
  refine Kw 21 23 [.slice (some ⟨g, 0, none⟩) m cp, vi ((a : Nat) : Int), vi ((i : Nat) : Int), vi ((a + i : Nat) : Int), .slice (some ⟨g, 0, none⟩) m cp, vi ((b : Nat) : Int), vi ((i : Nat) : Int), vi ((b + i : Nat) : Int), .slice (some ⟨g, 0, none⟩) m cp, vi ((b : Nat) : Int), vi ((i : Nat) : Int), vi ((b + i : Nat) : Int), .pointer (some ⟨g, 0 + (b + i) * 19, none⟩), .agg (Fact.cells y), .slice (some ⟨g, 0, none⟩) m cp, vi ((a : Nat) : Int), vi ((i : Nat) : Int), vi ((a + i : Nat) : Int), .pointer (some ⟨g, 0 + (a + i) * 19, none⟩), .agg (Fact.cells x), .pointer (some ⟨g, 0 + (a + i) * 19, none⟩), undef, .pointer (some ⟨g, 0 + (b + i) * 19, none⟩), undef] (fun W => Wx.Sep (J 28 19 Fact.cells (.slice (some ⟨g, 0, none⟩) m cp) (xs)).foot w0 W [J 28 19 Fact.cells (.slice (some ⟨g, 0, none⟩) m cp) (Ua xs a b i)]) (fun W => Wx.Sep (J 28 19 Fact.cells (.slice (some ⟨g, 0, none⟩) m cp) (xs)).foot w0 W [J 28 19 Fact.cells (.slice (some ⟨g, 0, none⟩) m cp) ((Ua xs a b i).set (a + i) y)]) (fun W => Wx.Sep (J 28 19 Fact.cells (.slice (some ⟨g, 0, none⟩) m cp) (xs)).foot w0 W [J 28 19 Fact.cells (.slice (some ⟨g, 0, none⟩) m cp) (((Ua xs a b i).set (a + i) y).set (b + i) x)]) kQ rfl kQ kQ kQ kQ kQ kQ (hS.up (Up.drew _)) ?_ _ _ rfl rfl ⟨rfl, rfl⟩ ⟨rfl, rfl⟩ ?_ ?_ ?_
  ·refine aC (.inr ⟨rfl, .inr fun W => PEv.mv rfl⟩) (aC (.inr ⟨rfl, .inr fun W => PEv.mv rfl⟩) (aC (.inr ⟨rfl, .inr fun W => PEv.mv rfl⟩) (aC (.inr ⟨rfl, .inr fun W => PEv.addN (.t rfl) (.t rfl) oQ⟩) (aC (.inr ⟨rfl, .inr fun W => PEv.mv rfl⟩) (aC (.inr ⟨rfl, .inr fun W => PEv.mv rfl⟩) (aC (.inr ⟨rfl, .inr fun W => PEv.mv rfl⟩) (aC (.inr ⟨rfl, .inr fun W => PEv.addN (.t rfl) (.t rfl) oQ⟩) (aC (.inr ⟨rfl, .inr fun W => PEv.mv rfl⟩) (aC (.inr ⟨rfl, .inr fun W => PEv.mv rfl⟩) (aC (.inr ⟨rfl, .inr fun W => PEv.mv rfl⟩) (aC (.inr ⟨rfl, .inr fun W => PEv.addN (.t rfl) (.t rfl) oQ⟩) (aC (.inr ⟨rfl, .inr fun W => PEv.indexAddr underlying25 sizeOf28 (.t rfl) (.t rfl) oQ⟩) (aC (.inr ⟨rfl, .inl ⟨by kernel_rfl, fun W hS => PEv.lc rfl ((hS.own 0 rfl).at (fun _ => rfl) hy)⟩⟩) (aC (.inr ⟨rfl, .inr fun W => PEv.mv rfl⟩) (aC (.inr ⟨rfl, .inr fun W => PEv.mv rfl⟩) (aC (.inr ⟨rfl, .inr fun W => PEv.mv rfl⟩) (aC (.inr ⟨rfl, .inr fun W => PEv.addN (.t rfl) (.t rfl) oQ⟩) (aC (.inr ⟨rfl, .inr fun W => PEv.indexAddr underlying25 sizeOf28 (.t rfl) (.t rfl) oQ⟩) (aC (.inr ⟨rfl, .inl ⟨by kernel_rfl, fun W hS => PEv.lc rfl ((hS.own 0 rfl).at (fun _ => rfl) hx)⟩⟩) (aC (.inr ⟨rfl, .inr fun W => PEv.indexAddr underlying25 sizeOf28 (.t rfl) (.t rfl) oQ⟩) (aC (.inl (by simp)) (aC (.inr ⟨rfl, .inr fun W => PEv.indexAddr underlying25 sizeOf28 (.t rfl) (.t rfl) oQ⟩) (aC (.inl (by simp)) ?_)))))))))))))))))))))))
   exact allL.nil
  ·intro W hS
   exact SEv.mono (SEv.Ga (i := a + i) (z := y) sizeOf28 (fun _ => rfl) Fact.one (.t rfl) (.t rfl) (hS.own 0 rfl) oQ) (fun _ h => hS.Ez 0 rfl h)
  ·intro W hS
   exact SEv.mono (SEv.Ga (i := b + i) (z := x) sizeOf28 (fun _ => rfl) Fact.one (.t rfl) (.t rfl) (hS.own 0 rfl) oQ) (fun _ h => hS.Ez 0 rfl h)
  intro w2 hS
  have hS : Wx.Sep (J 28 19 Fact.cells (.slice (some ⟨g, 0, none⟩) m cp) (xs)).foot w0 w2 [J 28 19 Fact.cells (.slice (some ⟨g, 0, none⟩) m cp) (((Ua xs a b i).set (a + i) y).set (b + i) x)] := hS
  refine Ae (Ac (Aa (Ab rfl (I (.ic rfl oQ) (LW.A rfl (LW.nil (Ar ?_)))))))
  exact ⟨i + 1, ⟨by omega, by rw [Ua, W5 hx hy]; exact hS⟩, tQ, by omega⟩
 refine Bl (Ad (Ad (Aq (C7 rfl ⟨_, rfl, ?_⟩))))
 have hin2 : i = n := by simp at h13; omega
 subst hin2
 exact ⟨rfl, ⟨hS.fr, hS.get 0 rfl, fun _ h => .inl h⟩⟩
theorem bV (a mm b : Nat) (fv : Go.Value) (g m cp : Nat) (xs : List Fact) (w : World) (ho : OwnS w 0 28 19 Fact.cells (.slice (some ⟨g, 0, none⟩) m cp) xs) (h63 : m ≤ 1000000000) (h1 : a < mm) (h2 : mm < b) (h3 : b ≤ m) : Ret prog 374 #[.slice (some ⟨g, 0, none⟩) m cp, vi (a : Int), vi (mm : Int), vi (b : Int), fv] w fun r w' => r = .tuple #[] ∧ Stp (J 28 19 Fact.cells (.slice (some ⟨g, 0, none⟩) m cp) (xs)) (J 28 19 Fact.cells (.slice (some ⟨g, 0, none⟩) m cp) (J0 xs a mm b)) w w' := by
 obtain ⟨w0, rfl, _⟩ := W0 w
 have hxl := ho.len
 have hS : Wx.Sep (J 28 19 Fact.cells (.slice (some ⟨g, 0, none⟩) m cp) (xs)).foot w0 w0 [J 28 19 Fact.cells (.slice (some ⟨g, 0, none⟩) m cp) (xs)] := Sep.cons ho (fun _ h => h) (Sep.start _ _) (by simp)
 refine cT 58 func374 rfl (Af (Ab rfl (Ab rfl (I (.M9 (.t rfl) (.t rfl) oQ oQ) (LW.A rfl (Ao (Aa (Ab rfl (Ab rfl (I (.M9 (.t rfl) (.t rfl) oQ oQ) (LW.A rfl (Ao (An (A8 (σ := Nat × Nat × List Fact) (fun s w => (0 < s.1 ∧ 0 < s.2.1 ∧ s.1 ≤ mm - a ∧ s.2.1 ≤ b - mm) ∧ (s.2.2.length = m) ∧ (J0 s.2.2 (mm - s.1) mm (mm + s.2.1) = J0 xs a mm b) ∧ (Wx.Sep (J 28 19 Fact.cells (.slice (some ⟨g, 0, none⟩) m cp) (xs)).foot w0 w [J 28 19 Fact.cells (.slice (some ⟨g, 0, none⟩) m cp) (s.2.2)])) (fun s => [(10, .eq (vi (s.1 : Int))), (11, .eq (vi (s.2.1 : Int)))]) ([(0, .eq _), (2, .eq _), (4, .eq _)]) (fun s => s.1 + s.2.1) (mm - a, b - mm, xs) ?_ tQ ?_))))))))))))))
 ·exact ⟨⟨by show 0 < mm - a; omega, by show 0 < b - mm; omega, Nat.le_refl _, Nat.le_refl _⟩, hxl, by rw [show mm - (mm - a) = a by omega, show mm + (b - mm) = b by omega], hS⟩
 rintro ⟨i, j, ys⟩ w1 ⟨hij, hyl, hrt, hS⟩
 dsimp only at hij hyl hrt hS
 change CW _ _ _ _ _ _ _ ([(10, .eq (vi (i : Int))), (11, .eq (vi (j : Int)))] ++ _) _
 refine Am (Af (Ab rfl (Ab rfl (I (.neq (.t rfl) (.t rfl)) (Ai (CW.b rfl (fun h20 => ?_) (fun h20 => ?_)))))))
 ·replace h20 := dQ h20
  have hne0 : ¬ ((i : Int) = j) := by simpa using h20
  have hne : i ≠ j := by omega
  refine Aj (Ac (An (Af (Ab rfl (Ab rfl (I (.gtr (.t rfl) (.t rfl)) (Ai (CW.b rfl (fun h23 => ?_) (fun h23 => ?_)))))))))
  ·replace h23 := dQ h23
   refine Af (Ab rfl (Ab rfl (Ab rfl (I (.M9 (.t rfl) (.t rfl) oQ oQ) (Ab rfl (Ab rfl (Ab rfl (A3 (eC (.ct rfl (.ct rfl (.ct rfl (.ct rfl (.cu rfl))))) (mR)) rfl (Jy (mm - i) mm j _ g m cp ys _ (hS.own 0 rfl) h63 oQ oQ) ?_))))))))
   rintro _ w2 ⟨rfl, uw2⟩
   replace hS := hS.Ez 0 rfl uw2
   refine Ai (Aa (Ab rfl (Ab rfl (I (.M9 (.t rfl) (.t rfl) oQ oQ) (LW.A rfl (LW.nil (Ae (Ar ?_))))))))
   exact ⟨(i - j, j, Ua ys (mm - i) mm j), ⟨⟨by show 0 < i - j; omega, by show 0 < j; omega, by show i - j ≤ mm - a; omega, by show j ≤ b - mm; omega⟩, by rw [F0]; exact hyl, by rw [← hrt]; exact tG oQ oQ oQ oQ, hS⟩, tQ, by (dsimp only; omega)⟩
  replace h23 := dQ h23
  refine Af (Ab rfl (Ab rfl (Ab rfl (I (.M9 (.t rfl) (.t rfl) oQ oQ) (Ab rfl (Ab rfl (I (.addN (.t rfl) (.t rfl) oQ) (Ab rfl (I (.M9 (.t rfl) (.t rfl) oQ oQ) (Ab rfl (Ab rfl (A3 (eC (.ct rfl (.ct rfl (.ct rfl (.ct rfl (.cu rfl))))) (mR)) rfl (Jy (mm - i) (mm + j - i) i _ g m cp ys _ (hS.own 0 rfl) h63 oQ oQ) ?_))))))))))))
  rintro _ w3 ⟨rfl, uw3⟩
  replace hS := hS.Ez 0 rfl uw3
  refine Ai (Aa (Ab rfl (Ab rfl (I (.M9 (.t rfl) (.t rfl) oQ oQ) (LW.A rfl (LW.nil (Ae (Ar ?_))))))))
  exact ⟨(i, j - i, Ua ys (mm - i) (mm + j - i) i), ⟨⟨by show 0 < i; omega, by show 0 < j - i; omega, by show i ≤ mm - a; omega, by show j - i ≤ b - mm; omega⟩, by rw [F0]; exact hyl, by rw [← hrt]; exact jO oQ oQ oQ oQ, hS⟩, tQ, by (dsimp only; omega)⟩
 replace h20 := dQ h20
 have heq0 : ((i : Int) = j) := by simpa using h20
 have heq : i = j := by omega
 subst heq
 refine Bl (Ad (Ad (Aq (Ac (Aa (Ab rfl (Ab rfl (Ab rfl (I (.M9 (.t rfl) (.t rfl) oQ oQ) (Ab rfl (Ab rfl (Ab rfl (A3 (eC (.ct rfl (.ct rfl (.ct rfl (.ct rfl (.cu rfl))))) (mR)) rfl (Jy (mm - i) mm i _ g m cp ys _ (hS.own 0 rfl) h63 oQ oQ) ?_)))))))))))))
 rintro _ w4 ⟨rfl, uw4⟩
 replace hS := hS.Ez 0 rfl uw4
 refine LW.nil (C7 rfl ⟨_, rfl, ?_⟩)
 rw [nV oQ oQ, hrt] at hS
 exact ⟨rfl, ⟨hS.fr, hS.get 0 rfl, fun _ h => .inl h⟩⟩
theorem Mv (a b : Nat) (cf : Nat) (lb : Array Go.Value) (key : Fact → K2) (hen : ∀ args w, (callFunc cf args).run Tryz.prog w = .ok (.enter cf args) w) (g m cp : Nat) (xs : List Fact) (w : World) (ho : OwnS w 0 28 19 Fact.cells (.slice (some ⟨g, 0, none⟩) m cp) xs) (h63 : m ≤ 1000000000) (hcmp : ∀ W, Fr (J 28 19 Fact.cells (.slice (some ⟨g, 0, none⟩) m cp) (xs)).foot w W → ∀ x y, Ret Tryz.prog cf (#[.agg (Fact.cells x), .agg (Fact.cells y)] ++ lb) W fun r W' => r = vi (bT (key x) (key y)) ∧ Up W W') (h1 : a ≤ b) (h2 : b ≤ m) : Ret prog 321 #[.slice (some ⟨g, 0, none⟩) m cp, vi (a : Int), vi (b : Int), .func (.func cf) #[] lb] w fun r w' => r = .tuple #[] ∧ ∃ zs, StS key (C3 xs a b) zs ∧ Stp (J 28 19 Fact.cells (.slice (some ⟨g, 0, none⟩) m cp) (xs)) (J 28 19 Fact.cells (.slice (some ⟨g, 0, none⟩) m cp) (E7 xs a b zs)) w w' := by
 obtain ⟨w0, rfl, _⟩ := W0 w
 have hxl := ho.len
 have hS : Wx.Sep (J 28 19 Fact.cells (.slice (some ⟨g, 0, none⟩) m cp) (xs)).foot w0 w0 [J 28 19 Fact.cells (.slice (some ⟨g, 0, none⟩) m cp) (xs)] := Sep.cons ho (fun _ h => h) (Sep.start _ _) (by simp)
 refine cT 53 func321 rfl (Af (Ab rfl (I (.ic rfl oQ) (LW.A rfl (Ai (An (A8 (σ := Nat × List Fact) (fun s w => (a + 1 ≤ s.1 ∧ (s.1 ≤ b ∨ s.1 = a + 1)) ∧ (StS key (C3 xs a (min s.1 b)) s.2) ∧ (Wx.Sep (J 28 19 Fact.cells (.slice (some ⟨g, 0, none⟩) m cp) (xs)).foot w0 w [J 28 19 Fact.cells (.slice (some ⟨g, 0, none⟩) m cp) (E7 xs a (min s.1 b) s.2)])) (fun s => [(8, .eq (vi (s.1 : Int)))]) ([(0, .eq _), (1, .eq _), (2, .eq _), (3, .eq _)]) (fun s => b - s.1) (a + 1, C3 xs a (min (a + 1) b)) ?_ tQ ?_)))))))
 ·exact ⟨⟨Nat.le_refl _, .inr rfl⟩, StS.refl (tI (by rw [Cj (by omega)]; omega)), by rw [G5 oQ (by omega)]; exact hS⟩
 rintro ⟨i, zs⟩ w1 ⟨hi, hz, hS⟩
 dsimp only at hi hz hS
 change CW _ _ _ _ _ _ _ ([(8, .eq (vi (i : Int)))] ++ _) _
 refine Am (Af (Ab rfl (Ab rfl (I (.l2 rfl rfl) (Ai (CW.b rfl (fun h14 => ?_) (fun h14 => ?_)))))))
 ·refine Aj (Ac (Am (An (Am ?_))))
  have hib : i < b := by simp at h14; omega
  rw [Nat.min_eq_left (by omega)] at hz hS
  have hzl : zs.length = i - a := by rw [hz.same.length, Cj (by omega)]
  obtain ⟨x, hx⟩ := Au (xs := xs) (i := i) oQ
  refine Aa (Ab rfl (LW.A rfl (Ai (An (A8 (σ := Nat) (fun s w => (a ≤ s ∧ s ≤ i) ∧ (∀ y ∈ zs.drop (s - a), Hu (key x) (key y) = true) ∧ (Wx.Sep (J 28 19 Fact.cells (.slice (some ⟨g, 0, none⟩) m cp) (xs)).foot w0 w [J 28 19 Fact.cells (.slice (some ⟨g, 0, none⟩) m cp) (E7 xs a (i + 1) (C4 zs x (s - a)))])) (fun s => [(9, .eq (vi (s : Int)))]) ([(0, .eq _), (1, .eq _), (2, .eq _), (3, .eq _), (8, .eq _)]) (fun s => s) i ?_ tQ ?_)))))
  ·exact ⟨⟨by omega, Nat.le_refl _⟩, by rw [List.drop_eq_nil_of_le (by omega)]; simp, by rw [← hzl, Vj, Yn oQ hx hzl]; exact hS⟩
  rintro j w2 ⟨hj, hgt, hS⟩
  refine Am (Am ?_)
  skip
  cases hq4 : decide (a < j) with
  | true =>
   have haj := of_decide_eq_true hq4
   obtain ⟨y, hy⟩ := Au (xs := zs) (i := j - a - 1) oQ
   have hjx : (E7 xs a (i + 1) (C4 zs x (j - a)))[j]? = some x := by have := Yo (xs := xs) (a := a) (b := i + 1) (zs := zs) (x := x) (p := j - a) oQ oQ oQ (by omega); rwa [show a + (j - a) = j by omega] at this
   have hjy : (E7 xs a (i + 1) (C4 zs x (j - a)))[j - 1]? = some y := by have := Ng (xs := xs) (a := a) (b := i + 1) (zs := zs) (x := x) (p := j - a) (q := j - a - 1) oQ oQ oQ oQ (by omega); rw [show a + (j - a - 1) = j - 1 by omega] at this; exact this.trans hy
   refine C5 kQ kQ rfl rfl (U (.mv rfl) (U (.mv rfl) (U (.tr (PEv.gtr (.t rfl) (.t rfl)) (decide_eq_true oQ)) (U (.mv rfl) (A6 (.mv rfl) (A6 (.mv rfl) (A6 (.mv rfl) (A6 (.indexAddr underlying25 sizeOf28 (.t rfl) (.t rfl) oQ) (A6 (.lc rfl ((hS.own 0 rfl).at (fun _ => rfl) hjx)) (A6 (.mv rfl) (A6 (.mv rfl) (A6 (.dec (.t rfl) oQ oQ) (A6 (.indexAddr underlying25 sizeOf28 (.t rfl) (.t rfl) oQ) (A6 (.lc rfl ((hS.own 0 rfl).at (fun _ => rfl) hjy)) (U4 rfl rfl rfl rfl rfl (fun a w _ ha => Cs (.t rfl) (.ct rfl (.cu rfl)) (hen) a ha) rfl (fun w hu => hcmp w (hS.fr.trans (hu.fr _)) x y) (A6 (.lss (.t rfl) (.const _)) (U (.pa rfl (fun hp => (by exact .tmp rfl))) (HW.nil ?_))))))))))))))))))
   intro w3 uw3
   replace hS := hS.up uw3
   refine Ac (CW.b rfl (fun h34 => ?_) (fun h34 => ?_))
   ·refine Aj (Ac (Am (An (Kw 15 17 [.slice (some ⟨g, 0, none⟩) m cp, vi ((j : Nat) : Int), .slice (some ⟨g, 0, none⟩) m cp, vi ((j : Nat) : Int), vi ((j - 1 : Nat) : Int), .slice (some ⟨g, 0, none⟩) m cp, vi ((j : Nat) : Int), vi ((j - 1 : Nat) : Int), .pointer (some ⟨g, 0 + (j - 1) * 19, none⟩), .agg (Fact.cells y), .slice (some ⟨g, 0, none⟩) m cp, vi ((j : Nat) : Int), .pointer (some ⟨g, 0 + (j) * 19, none⟩), .agg (Fact.cells x), .pointer (some ⟨g, 0 + (j) * 19, none⟩), undef, .pointer (some ⟨g, 0 + (j - 1) * 19, none⟩), undef] (fun W => Wx.Sep (J 28 19 Fact.cells (.slice (some ⟨g, 0, none⟩) m cp) (xs)).foot w0 W [J 28 19 Fact.cells (.slice (some ⟨g, 0, none⟩) m cp) (E7 xs a (i + 1) (C4 zs x (j - a)))]) (fun W => Wx.Sep (J 28 19 Fact.cells (.slice (some ⟨g, 0, none⟩) m cp) (xs)).foot w0 W [J 28 19 Fact.cells (.slice (some ⟨g, 0, none⟩) m cp) ((E7 xs a (i + 1) (C4 zs x (j - a))).set (j) y)]) (fun W => Wx.Sep (J 28 19 Fact.cells (.slice (some ⟨g, 0, none⟩) m cp) (xs)).foot w0 W [J 28 19 Fact.cells (.slice (some ⟨g, 0, none⟩) m cp) (((E7 xs a (i + 1) (C4 zs x (j - a))).set (j) y).set (j - 1) x)]) kQ rfl kQ kQ kQ kQ kQ kQ (hS.up (Up.drew _)) ?_ _ _ rfl rfl ⟨rfl, rfl⟩ ⟨rfl, rfl⟩ ?_ ?_ ?_))))
    ·refine aC (.inr ⟨rfl, .inr fun W => PEv.mv rfl⟩) (aC (.inr ⟨rfl, .inr fun W => PEv.mv rfl⟩) (aC (.inr ⟨rfl, .inr fun W => PEv.mv rfl⟩) (aC (.inr ⟨rfl, .inr fun W => PEv.mv rfl⟩) (aC (.inr ⟨rfl, .inr fun W => PEv.dec (.t rfl) oQ oQ⟩) (aC (.inr ⟨rfl, .inr fun W => PEv.mv rfl⟩) (aC (.inr ⟨rfl, .inr fun W => PEv.mv rfl⟩) (aC (.inr ⟨rfl, .inr fun W => PEv.dec (.t rfl) oQ oQ⟩) (aC (.inr ⟨rfl, .inr fun W => PEv.indexAddr underlying25 sizeOf28 (.t rfl) (.t rfl) oQ⟩) (aC (.inr ⟨rfl, .inl ⟨by kernel_rfl, fun W hS => PEv.lc rfl ((hS.own 0 rfl).at (fun _ => rfl) hjy)⟩⟩) (aC (.inr ⟨rfl, .inr fun W => PEv.mv rfl⟩) (aC (.inr ⟨rfl, .inr fun W => PEv.mv rfl⟩) (aC (.inr ⟨rfl, .inr fun W => PEv.indexAddr underlying25 sizeOf28 (.t rfl) (.t rfl) oQ⟩) (aC (.inr ⟨rfl, .inl ⟨by kernel_rfl, fun W hS => PEv.lc rfl ((hS.own 0 rfl).at (fun _ => rfl) hjx)⟩⟩) (aC (.inr ⟨rfl, .inr fun W => PEv.indexAddr underlying25 sizeOf28 (.t rfl) (.t rfl) oQ⟩) (aC (.inl (by simp)) (aC (.inr ⟨rfl, .inr fun W => PEv.indexAddr underlying25 sizeOf28 (.t rfl) (.t rfl) oQ⟩) (aC (.inl (by simp)) ?_)))))))))))))))))
     exact allL.nil
    ·intro W hS
     exact SEv.mono (SEv.Ga (i := j) (z := y) sizeOf28 (fun _ => rfl) Fact.one (.t rfl) (.t rfl) (hS.own 0 rfl) oQ) (fun _ h => hS.Ez 0 rfl h)
    ·intro W hS
     exact SEv.mono (SEv.Ga (i := j - 1) (z := x) sizeOf28 (fun _ => rfl) Fact.one (.t rfl) (.t rfl) (hS.own 0 rfl) oQ) (fun _ h => hS.Ez 0 rfl h)
    intro w4 hS
    have hS : Wx.Sep (J 28 19 Fact.cells (.slice (some ⟨g, 0, none⟩) m cp) (xs)).foot w0 w4 [J 28 19 Fact.cells (.slice (some ⟨g, 0, none⟩) m cp) (((E7 xs a (i + 1) (C4 zs x (j - a))).set (j) y).set (j - 1) x)] := hS
    refine Ae (Ac (Aa (Ab rfl (I (.dec (.t rfl) oQ oQ) (LW.A rfl (LW.nil (Ar ?_)))))))
    exact ⟨j - 1, ⟨⟨by omega, by omega⟩, by rw [show j - 1 - a = j - a - 1 by omega]; exact jQ oQ hy hgt (by rw [← Hz]; simpa using h34), by have := Yp (xs := xs) (a := a) (b := i + 1) (x := x) (p := j - a - 1) (y := y) oQ oQ oQ oQ hy; rw [show j - a - 1 + 1 = j - a by omega, show a + (j - a) = j by omega, show a + (j - a - 1) = j - 1 by omega] at this; rw [show j - 1 - a = j - a - 1 by omega, ← this]; exact hS⟩, tQ, by omega⟩
   refine Bl (Ad (Ad (Aq (Ae (Ac (Aa (Ab rfl (I (.ic rfl oQ) (LW.A rfl (LW.nil (Ar ?_)))))))))))
   exact ⟨(i + 1, C4 zs x (j - a)), ⟨⟨by omega, by omega⟩, by rw [Nat.min_eq_left oQ, Lk oQ hx]; exact hz.snoc oQ hgt (.inr ⟨y, hy, by rw [← Hz]; simpa using h34⟩), by rw [Nat.min_eq_left (by omega)]; exact hS⟩, tQ, by omega⟩
  | false =>
   refine C5 kQ kQ rfl rfl (U (.mv rfl) (U (.mv rfl) (U (.fa (PEv.gtr (.t rfl) (.t rfl)) (decide_eq_false (by have := of_decide_eq_false hq4; omega))) (U (.mv rfl) (Dq (Dq (Dq (Dq (Dq (Dq (Dq (Dq (Dq (Dq (Dq (Dq (U (.Ei (b := false) (.t rfl) (fun hp => absurd (show false = true from hp) cQ)) (HW.nil ?_))))))))))))))))))
   intro w5 uw5
   replace hS := hS.up uw5
   refine Ac (CW.f rfl (Bl (Ad (Ad (Aq (Ae (Ac (Aa (Ab rfl (I (.ic rfl oQ) (LW.A rfl (LW.nil (Ar ?_)))))))))))))
   exact ⟨(i + 1, C4 zs x (j - a)), ⟨⟨by omega, by omega⟩, by rw [Nat.min_eq_left oQ, Lk oQ hx]; exact hz.snoc oQ hgt (.inl (by have := of_decide_eq_false hq4; omega)), by rw [Nat.min_eq_left (by omega)]; exact hS⟩, tQ, by omega⟩
 refine Bl (Ad (Ad (Aq (C7 rfl ⟨_, rfl, ?_⟩))))
 have hbi : min i b = b := by simp at h14; omega
 rw [hbi] at hz hS
 exact ⟨rfl, zs, hz, ⟨hS.fr, hS.get 0 rfl, fun _ h => .inl h⟩⟩
set_option maxHeartbeats 8000000 in
theorem Oq (cf : Nat) (lb : Array Go.Value) (key : Fact → K2) (hen : ∀ args w, (callFunc cf args).run Tryz.prog w = .ok (.enter cf args) w) (g m cp : Nat) (h63 : m ≤ 1000000000) : ∀ (N a mm b : Nat) (xs : List Fact) (w : World), b - a ≤ N → OwnS w 0 28 19 Fact.cells (.slice (some ⟨g, 0, none⟩) m cp) xs → (∀ W, Fr (J 28 19 Fact.cells (.slice (some ⟨g, 0, none⟩) m cp) (xs)).foot w W → ∀ x y, Ret Tryz.prog cf (#[.agg (Fact.cells x), .agg (Fact.cells y)] ++ lb) W fun r W' => r = vi (bT (key x) (key y)) ∧ Up W W') → a < mm → mm < b → b ≤ m → Iv key (C3 xs a mm) → Iv key (C3 xs mm b) →
   Ret Tryz.prog 322 #[.slice (some ⟨g, 0, none⟩) m cp, vi (a : Int), vi (mm : Int), vi (b : Int), .func (.func cf) #[] lb] w fun r w' => r = .tuple #[] ∧ ∃ zs, StS key (C3 xs a b) zs ∧ Stp (J 28 19 Fact.cells (.slice (some ⟨g, 0, none⟩) m cp) (xs)) (J 28 19 Fact.cells (.slice (some ⟨g, 0, none⟩) m cp) (E7 xs a b zs)) w w' := by
 intro N
 induction N with
 | zero => intro a mm b xs w hN _ _ h1 h2; omega
 | succ N ih =>
 intro a mm b xs w hN ho hcmp h1 h2 h3 hsA hsB
 obtain ⟨w0, rfl, _⟩ := W0 w
 have hxl := ho.len
 have hS : Wx.Sep (J 28 19 Fact.cells (.slice (some ⟨g, 0, none⟩) m cp) (xs)).foot w0 w0 [J 28 19 Fact.cells (.slice (some ⟨g, 0, none⟩) m cp) (xs)] := Sep.cons ho (fun _ h => h) (Sep.start _ _) (by simp)
 refine cT 220 func322 rfl (Am (Am ?_))
 cases hq0 : decide (mm - a = 1) with
 | true =>
  have hq0 := of_decide_eq_true hq0
  obtain rfl : mm = a + 1 := by omega
  obtain ⟨x, hx⟩ := Au (xs := xs) (i := a) oQ
  refine Aa (Ab rfl (Ab rfl (I (.M9 (.t rfl) (.t rfl) oQ oQ) (I (.tr (PEv.eql (.t rfl) (.const _)) (decide_eq_true oQ)) (Ai (CW.v rfl (Af (Ab rfl (LW.A rfl (Ao (Aa (Ab rfl (LW.A rfl (Ao (An (A8 (σ := Nat × Nat) (fun s w => (a + 1 ≤ s.1 ∧ s.1 ≤ s.2 ∧ s.2 ≤ b) ∧ (∀ q y, a + 1 ≤ q → q < s.1 → xs[q]? = some y → Hu (key y) (key x) = true) ∧ (∀ q y, s.2 ≤ q → q < b → xs[q]? = some y → Hu (key y) (key x) = false) ∧ (Wx.Sep (J 28 19 Fact.cells (.slice (some ⟨g, 0, none⟩) m cp) (xs)).foot w0 w [J 28 19 Fact.cells (.slice (some ⟨g, 0, none⟩) m cp) (xs)])) (fun s => [(10, .eq (vi (s.1 : Int))), (11, .eq (vi (s.2 : Int)))]) ([(0, .eq _), (1, .eq _), (2, .eq _), (3, .eq _), (4, .eq _)]) (fun s => s.2 - s.1) (a + 1, b) ?_ tQ ?_))))))))))))))))
  ·exact ⟨⟨Nat.le_refl _, by show a + 1 ≤ b; omega, Nat.le_refl _⟩, fun q y h1 h2 => absurd (show q < a + 1 from h2) oQ, fun q y h1 h2 => absurd (show b ≤ q from h1) oQ, hS⟩
  rintro ⟨i, j⟩ w1 ⟨hij, hL, hR, hS⟩
  dsimp only at hij hL hR hS
  change CW _ _ _ _ _ _ _ ([(10, .eq (vi (i : Int))), (11, .eq (vi (j : Int)))] ++ _) _
  refine Am (Af (Ab rfl (Ab rfl (I (.l2 rfl rfl) (Ai (CW.b rfl (fun h33 => ?_) (fun h33 => ?_)))))))
  ·replace h33 := dQ h33
   refine Aj (Ac (An (Af (Ab rfl (Ab rfl (I (.addN (.t rfl) (.t rfl) oQ) (I (.val (v' := vu (i + j)) (PEv.conv (k' := .u64) (by rw [underlying3]; rfl) underlying185 (.t rfl)) (Ra oQ)) (I (.val (v' := vu ((i + j) / 2)) (PEv.U9 (j := 1) (.t rfl) (.const _)) Oo) (I (.val (v' := vi (((i + j) / 2 : Nat) : Int)) (PEv.conv (k' := .i64) (by rw [underlying185]; rfl) underlying3 (.t rfl)) (Rb oQ)) (LW.A rfl (Ao ?_)))))))))))
   have hlt : i < j := by simp at h33; omega
   obtain ⟨y, hy⟩ := Au (xs := xs) (i := (i + j) / 2) oQ
   refine C5 kQ kQ rfl rfl (U (.mv rfl) (U (.mv rfl) (U (.mv rfl) (U (.indexAddr underlying25 sizeOf28 (.t rfl) (.t rfl) oQ) (U (.lc rfl ((hS.own 0 rfl).at (fun _ => rfl) hy)) (U (.mv rfl) (U (.mv rfl) (U (.indexAddr underlying25 sizeOf28 (.t rfl) (.t rfl) oQ) (U (.lc rfl ((hS.own 0 rfl).at (fun _ => rfl) hx)) (HW.c (fun a w _ ha => Cs (.t rfl) (.ct rfl (.cu rfl)) (hen) a ha) rfl rfl (fun w hu => hcmp w (hS.fr.trans (hu.fr _)) y x) (U (.lss (.t rfl) (.const _)) (HW.nil ?_))))))))))))
   intro w2 uw2
   replace hS := hS.up uw2
   refine Ac (CW.b rfl (fun h50 => ?_) (fun h50 => ?_))
   ·replace h50 := dQ h50
    refine Aa (Ab rfl (I (.ic rfl oQ) (LW.A rfl (LW.nil (Ae (Ar ?_))))))
    exact ⟨((i + j) / 2 + 1, j), ⟨⟨by show a + 1 ≤ (i + j) / 2 + 1; omega, by show (i + j) / 2 + 1 ≤ j; omega, by show j ≤ b; omega⟩, fun q z q1 q2 hz => fN (Jp hsB q1 (show q ≤ (i + j) / 2 from Nat.le_of_lt_succ q2) oQ hz hy) (by rw [← Hz]; exact decide_eq_true h50), hR, hS⟩, tQ, by omega⟩
   replace h50 := dQ h50
   refine Aa (Ab rfl (LW.A rfl (LW.nil (Ae (Ar ?_)))))
   exact ⟨(i, (i + j) / 2), ⟨⟨by show a + 1 ≤ i; omega, by show i ≤ (i + j) / 2; omega, by show (i + j) / 2 ≤ b; omega⟩, hL, fun q z q1 q2 hz => J5 (by rw [← Hz]; exact decide_eq_false h50) (Jp hsB oQ (show (i + j) / 2 ≤ q from q1) q2 hy hz), hS⟩, tQ, by omega⟩
  replace h33 := dQ h33
  refine Bl (Ad (Ad (Aq (Ac (Am (Am ?_))))))
  have hij2 : i = j := by simp at h33; omega
  have hzl : (C3 xs (a + 1) b).length = b - (a + 1) := Cj oQ
  have hsx : x :: C3 xs (a + 1) b = C3 xs a b := (oF hx oQ oQ).symm
  refine Aa (Ab rfl (LW.A rfl (Ai (An (A8 (σ := Nat) (fun s w => (a ≤ s ∧ s ≤ i - 1) ∧ (Wx.Sep (J 28 19 Fact.cells (.slice (some ⟨g, 0, none⟩) m cp) (xs)).foot w0 w [J 28 19 Fact.cells (.slice (some ⟨g, 0, none⟩) m cp) (E7 xs a b (C4 (C3 xs (a + 1) b) x (s - a)))])) (fun s => [(13, .eq (vi (s : Int)))]) ([(0, .eq _), (1, .eq _), (2, .eq _), (3, .eq _), (4, .eq _), (10, .eq _)]) (fun s => i - s) a ?_ tQ ?_)))))
  ·exact ⟨⟨Nat.le_refl _, by omega⟩, by rw [Nat.sub_self, Ym, hsx, G5 oQ (by omega)]; exact hS⟩
  rintro k w3 ⟨hk, hS⟩
  refine Am (Af (Ab rfl (Ab rfl (I (.dec (.t rfl) oQ oQ) (I (.l2 rfl rfl) (Ai (CW.b rfl (fun h58 => ?_) (fun h58 => ?_))))))))
  ·replace h58 := dQ h58
   refine Aj (Ac (Am (An ?_)))
   have hki : k < i - 1 := by simp at h58; omega
   obtain ⟨y, hy⟩ := Au (xs := C3 xs (a + 1) b) (i := k - a) oQ
   have hrl : (E7 xs a b (C4 (C3 xs (a + 1) b) x (k - a))).length = m := by rw [Dy oQ oQ (by rw [Eh]; omega)]; exact hxl
   have hkx : (E7 xs a b (C4 (C3 xs (a + 1) b) x (k - a)))[k]? = some x := by have := Yo (xs := xs) (a := a) (b := b) (zs := C3 xs (a + 1) b) (x := x) (p := k - a) oQ oQ oQ (by omega); rwa [show a + (k - a) = k by omega] at this
   have hky : (E7 xs a b (C4 (C3 xs (a + 1) b) x (k - a)))[k + 1]? = some y := by have := Sf (xs := xs) (a := a) (b := b) (zs := C3 xs (a + 1) b) (x := x) (p := k - a) (q := k - a + 1) oQ oQ oQ oQ (by omega); rw [show a + (k - a + 1) = k + 1 by omega] at this; exact this.trans hy
   refine Kw 15 17 [.slice (some ⟨g, 0, none⟩) m cp, vi ((k : Nat) : Int), .slice (some ⟨g, 0, none⟩) m cp, vi ((k : Nat) : Int), vi ((k + 1 : Nat) : Int), .slice (some ⟨g, 0, none⟩) m cp, vi ((k : Nat) : Int), vi ((k + 1 : Nat) : Int), .pointer (some ⟨g, 0 + (k + 1) * 19, none⟩), .agg (Fact.cells y), .slice (some ⟨g, 0, none⟩) m cp, vi ((k : Nat) : Int), .pointer (some ⟨g, 0 + (k) * 19, none⟩), .agg (Fact.cells x), .pointer (some ⟨g, 0 + (k) * 19, none⟩), undef, .pointer (some ⟨g, 0 + (k + 1) * 19, none⟩), undef] (fun W => Wx.Sep (J 28 19 Fact.cells (.slice (some ⟨g, 0, none⟩) m cp) (xs)).foot w0 W [J 28 19 Fact.cells (.slice (some ⟨g, 0, none⟩) m cp) (E7 xs a b (C4 (C3 xs (a + 1) b) x (k - a)))]) (fun W => Wx.Sep (J 28 19 Fact.cells (.slice (some ⟨g, 0, none⟩) m cp) (xs)).foot w0 W [J 28 19 Fact.cells (.slice (some ⟨g, 0, none⟩) m cp) ((E7 xs a b (C4 (C3 xs (a + 1) b) x (k - a))).set (k) y)]) (fun W => Wx.Sep (J 28 19 Fact.cells (.slice (some ⟨g, 0, none⟩) m cp) (xs)).foot w0 W [J 28 19 Fact.cells (.slice (some ⟨g, 0, none⟩) m cp) (((E7 xs a b (C4 (C3 xs (a + 1) b) x (k - a))).set (k) y).set (k + 1) x)]) kQ rfl kQ kQ kQ kQ kQ kQ (hS.up (Up.drew _)) ?_ _ _ rfl rfl ⟨rfl, rfl⟩ ⟨rfl, rfl⟩ ?_ ?_ ?_
   ·refine aC (.inr ⟨rfl, .inr fun W => PEv.mv rfl⟩) (aC (.inr ⟨rfl, .inr fun W => PEv.mv rfl⟩) (aC (.inr ⟨rfl, .inr fun W => PEv.mv rfl⟩) (aC (.inr ⟨rfl, .inr fun W => PEv.mv rfl⟩) (aC (.inr ⟨rfl, .inr fun W => PEv.ic rfl oQ⟩) (aC (.inr ⟨rfl, .inr fun W => PEv.mv rfl⟩) (aC (.inr ⟨rfl, .inr fun W => PEv.mv rfl⟩) (aC (.inr ⟨rfl, .inr fun W => PEv.ic rfl oQ⟩) (aC (.inr ⟨rfl, .inr fun W => PEv.indexAddr underlying25 sizeOf28 (.t rfl) (.t rfl) oQ⟩) (aC (.inr ⟨rfl, .inl ⟨by kernel_rfl, fun W hS => PEv.lc rfl ((hS.own 0 rfl).at (fun _ => rfl) hky)⟩⟩) (aC (.inr ⟨rfl, .inr fun W => PEv.mv rfl⟩) (aC (.inr ⟨rfl, .inr fun W => PEv.mv rfl⟩) (aC (.inr ⟨rfl, .inr fun W => PEv.indexAddr underlying25 sizeOf28 (.t rfl) (.t rfl) oQ⟩) (aC (.inr ⟨rfl, .inl ⟨by kernel_rfl, fun W hS => PEv.lc rfl ((hS.own 0 rfl).at (fun _ => rfl) hkx)⟩⟩) (aC (.inr ⟨rfl, .inr fun W => PEv.indexAddr underlying25 sizeOf28 (.t rfl) (.t rfl) oQ⟩) (aC (.inl (by simp)) (aC (.inr ⟨rfl, .inr fun W => PEv.indexAddr underlying25 sizeOf28 (.t rfl) (.t rfl) oQ⟩) (aC (.inl (by simp)) ?_)))))))))))))))))
    exact allL.nil
   ·intro W hS
    exact SEv.mono (SEv.Ga (i := k) (z := y) sizeOf28 (fun _ => rfl) Fact.one (.t rfl) (.t rfl) (hS.own 0 rfl) oQ) (fun _ h => hS.Ez 0 rfl h)
   ·intro W hS
    exact SEv.mono (SEv.Ga (i := k + 1) (z := x) sizeOf28 (fun _ => rfl) Fact.one (.t rfl) (.t rfl) (hS.own 0 rfl) oQ) (fun _ h => hS.Ez 0 rfl h)
   intro w4 hS
   have hS : Wx.Sep (J 28 19 Fact.cells (.slice (some ⟨g, 0, none⟩) m cp) (xs)).foot w0 w4 [J 28 19 Fact.cells (.slice (some ⟨g, 0, none⟩) m cp) (((E7 xs a b (C4 (C3 xs (a + 1) b) x (k - a))).set (k) y).set (k + 1) x)] := hS
   refine Ae (Ac (Aa (Ab rfl (I (.ic rfl oQ) (LW.A rfl (LW.nil (Ar ?_)))))))
   exact ⟨k + 1, ⟨⟨by omega, by omega⟩, by have := zL (xs := xs) (a := a) (b := b) (x := x) (p := k - a) (y := y) oQ oQ oQ oQ hy; rw [show a + (k - a) = k by omega, show a + (k - a + 1) = k + 1 by omega] at this; rw [show k + 1 - a = k - a + 1 by omega, ← this]; exact hS⟩, tQ, by omega⟩
  replace h58 := dQ h58
  refine Bl (Ad (Ad (Aq (Ac (Ak (Ap (Ih rfl ⟨_, rfl, ?_⟩)))))))
  have hk2 : k - a = i - (a + 1) := by simp at h58; omega
  rw [hk2] at hS
  exact ⟨rfl, _, tK oQ hx oQ oQ hsB hL (by rw [hij2]; exact hR), ⟨hS.fr, hS.get 0 rfl, fun _ h => .inl h⟩⟩
 | false =>
  have hq0 := of_decide_eq_false hq0
  refine Aa (Ab rfl (Ab rfl (I (.M9 (.t rfl) (.t rfl) oQ oQ) (I (.fa (PEv.eql (.t rfl) (.const _)) (decide_eq_false oQ)) (Ai (CW.f rfl (Aj (Ac (Am (Am ?_))))))))))
  cases hq12 : decide (b - mm = 1) with
  | true =>
   have hq12 := of_decide_eq_true hq12
   obtain rfl : b = mm + 1 := by omega
   obtain ⟨x, hx⟩ := Au (xs := xs) (i := mm) oQ
   refine Aa (Ab rfl (Ab rfl (I (.M9 (.t rfl) (.t rfl) oQ oQ) (I (.tr (PEv.eql (.t rfl) (.const _)) (decide_eq_true oQ)) (Ai (CW.v rfl (Af (Ab rfl (LW.A rfl (Ao (Aa (Ab rfl (LW.A rfl (Ao (An (A8 (σ := Nat × Nat) (fun s w => (a ≤ s.1 ∧ s.1 ≤ s.2 ∧ s.2 ≤ mm) ∧ (∀ q y, a ≤ q → q < s.1 → xs[q]? = some y → Hu (key x) (key y) = false) ∧ (∀ q y, s.2 ≤ q → q < mm → xs[q]? = some y → Hu (key x) (key y) = true) ∧ (Wx.Sep (J 28 19 Fact.cells (.slice (some ⟨g, 0, none⟩) m cp) (xs)).foot w0 w [J 28 19 Fact.cells (.slice (some ⟨g, 0, none⟩) m cp) (xs)])) (fun s => [(14, .eq (vi (s.1 : Int))), (15, .eq (vi (s.2 : Int)))]) ([(0, .eq _), (1, .eq _), (2, .eq _), (3, .eq _), (4, .eq _)]) (fun s => s.2 - s.1) (a, mm) ?_ tQ ?_))))))))))))))))
   ·exact ⟨⟨Nat.le_refl _, by show a ≤ mm; omega, Nat.le_refl _⟩, fun q y h1 h2 => absurd (show q < a from h2) oQ, fun q y h1 h2 => absurd (show mm ≤ q from h1) oQ, hS⟩
   rintro ⟨i, j⟩ w5 ⟨hij, hL, hR, hS⟩
   dsimp only at hij hL hR hS
   change CW _ _ _ _ _ _ _ ([(14, .eq (vi (i : Int))), (15, .eq (vi (j : Int)))] ++ _) _
   refine Am (Af (Ab rfl (Ab rfl (I (.l2 rfl rfl) (Ai (CW.b rfl (fun h85 => ?_) (fun h85 => ?_)))))))
   ·refine Aj (Ac (An (Af (Ab rfl (Ab rfl (I (.addN (.t rfl) (.t rfl) oQ) (I (.val (v' := vu (i + j)) (PEv.conv (k' := .u64) (by rw [underlying3]; rfl) underlying185 (.t rfl)) (Ra oQ)) (I (.val (v' := vu ((i + j) / 2)) (PEv.U9 (j := 1) (.t rfl) (.const _)) Oo) (I (.val (v' := vi (((i + j) / 2 : Nat) : Int)) (PEv.conv (k' := .i64) (by rw [underlying185]; rfl) underlying3 (.t rfl)) (Rb oQ)) (LW.A rfl (Ao ?_)))))))))))
    have hlt : i < j := by simp at h85; omega
    obtain ⟨y, hy⟩ := Au (xs := xs) (i := (i + j) / 2) oQ
    refine C5 kQ kQ rfl rfl (U (.mv rfl) (U (.mv rfl) (U (.mv rfl) (U (.indexAddr underlying25 sizeOf28 (.t rfl) (.t rfl) oQ) (U (.lc rfl ((hS.own 0 rfl).at (fun _ => rfl) hx)) (U (.mv rfl) (U (.mv rfl) (U (.indexAddr underlying25 sizeOf28 (.t rfl) (.t rfl) oQ) (U (.lc rfl ((hS.own 0 rfl).at (fun _ => rfl) hy)) (HW.c (fun a w _ ha => Cs (.t rfl) (.ct rfl (.cu rfl)) (hen) a ha) rfl rfl (fun w hu => hcmp w (hS.fr.trans (hu.fr _)) x y) (U (.lss (.t rfl) (.const _)) (U (.n1 rfl) (HW.nil ?_)))))))))))))
    intro w6 uw6
    replace hS := hS.up uw6
    refine Ac (CW.b rfl (fun h103 => ?_) (fun h103 => ?_))
    ·refine Aa (Ab rfl (I (.ic rfl oQ) (LW.A rfl (LW.nil (Ae (Ar ?_))))))
     exact ⟨((i + j) / 2 + 1, j), ⟨⟨by show a ≤ (i + j) / 2 + 1; omega, by show (i + j) / 2 + 1 ≤ j; omega, by show j ≤ mm; omega⟩, fun q z q1 q2 hz => J5 (Jp hsA q1 (show q ≤ (i + j) / 2 from Nat.le_of_lt_succ q2) oQ hz hy) (by rw [← Hz]; simpa using h103), hR, hS⟩, tQ, by omega⟩
    refine Aa (Ab rfl (LW.A rfl (LW.nil (Ae (Ar ?_)))))
    exact ⟨(i, (i + j) / 2), ⟨⟨by show a ≤ i; omega, by show i ≤ (i + j) / 2; omega, by show (i + j) / 2 ≤ mm; omega⟩, hL, fun q z q1 q2 hz => Wt (by rw [← Hz]; simpa using h103) (Jp hsA oQ (show (i + j) / 2 ≤ q from q1) q2 hy hz), hS⟩, tQ, by omega⟩
   refine Bl (Ad (Ad (Aq (Ac (Am (Am ?_))))))
   have hij2 : i = j := by simp at h85; omega
   have hzl : (C3 xs a mm).length = mm - a := Cj oQ
   refine Aa (Ab rfl (LW.A rfl (Ai (An (A8 (σ := Nat) (fun s w => (i ≤ s ∧ s ≤ mm) ∧ (Wx.Sep (J 28 19 Fact.cells (.slice (some ⟨g, 0, none⟩) m cp) (xs)).foot w0 w [J 28 19 Fact.cells (.slice (some ⟨g, 0, none⟩) m cp) (E7 xs a (mm + 1) (C4 (C3 xs a mm) x (s - a)))])) (fun s => [(17, .eq (vi (s : Int)))]) ([(0, .eq _), (1, .eq _), (2, .eq _), (3, .eq _), (4, .eq _), (14, .eq _)]) (fun s => s) mm ?_ tQ ?_)))))
   ·exact ⟨⟨by omega, Nat.le_refl _⟩, by rw [← hzl, Vj, Yn oQ hx hzl, G5 oQ (by omega)]; exact hS⟩
   rintro k w7 ⟨hk, hS⟩
   refine Am (Af (Ab rfl (Ab rfl (I (.gtr (.t rfl) (.t rfl)) (Ai (CW.b rfl (fun h110 => ?_) (fun h110 => ?_)))))))
   ·refine Aj (Ac (Am (An ?_)))
    have hki : i < k := by simp at h110; omega
    obtain ⟨y, hy⟩ := Au (xs := C3 xs a mm) (i := k - a - 1) oQ
    have hrl : (E7 xs a (mm + 1) (C4 (C3 xs a mm) x (k - a))).length = m := by rw [Dy oQ oQ (by rw [Eh]; omega)]; exact hxl
    have hkx : (E7 xs a (mm + 1) (C4 (C3 xs a mm) x (k - a)))[k]? = some x := by have := Yo (xs := xs) (a := a) (b := mm + 1) (zs := C3 xs a mm) (x := x) (p := k - a) oQ oQ oQ (by omega); rwa [show a + (k - a) = k by omega] at this
    have hky : (E7 xs a (mm + 1) (C4 (C3 xs a mm) x (k - a)))[k - 1]? = some y := by have := Ng (xs := xs) (a := a) (b := mm + 1) (zs := C3 xs a mm) (x := x) (p := k - a) (q := k - a - 1) oQ oQ oQ oQ (by omega); rw [show a + (k - a - 1) = k - 1 by omega] at this; exact this.trans hy
    refine Kw 15 17 [.slice (some ⟨g, 0, none⟩) m cp, vi ((k : Nat) : Int), .slice (some ⟨g, 0, none⟩) m cp, vi ((k : Nat) : Int), vi ((k - 1 : Nat) : Int), .slice (some ⟨g, 0, none⟩) m cp, vi ((k : Nat) : Int), vi ((k - 1 : Nat) : Int), .pointer (some ⟨g, 0 + (k - 1) * 19, none⟩), .agg (Fact.cells y), .slice (some ⟨g, 0, none⟩) m cp, vi ((k : Nat) : Int), .pointer (some ⟨g, 0 + (k) * 19, none⟩), .agg (Fact.cells x), .pointer (some ⟨g, 0 + (k) * 19, none⟩), undef, .pointer (some ⟨g, 0 + (k - 1) * 19, none⟩), undef] (fun W => Wx.Sep (J 28 19 Fact.cells (.slice (some ⟨g, 0, none⟩) m cp) (xs)).foot w0 W [J 28 19 Fact.cells (.slice (some ⟨g, 0, none⟩) m cp) (E7 xs a (mm + 1) (C4 (C3 xs a mm) x (k - a)))]) (fun W => Wx.Sep (J 28 19 Fact.cells (.slice (some ⟨g, 0, none⟩) m cp) (xs)).foot w0 W [J 28 19 Fact.cells (.slice (some ⟨g, 0, none⟩) m cp) ((E7 xs a (mm + 1) (C4 (C3 xs a mm) x (k - a))).set (k) y)]) (fun W => Wx.Sep (J 28 19 Fact.cells (.slice (some ⟨g, 0, none⟩) m cp) (xs)).foot w0 W [J 28 19 Fact.cells (.slice (some ⟨g, 0, none⟩) m cp) (((E7 xs a (mm + 1) (C4 (C3 xs a mm) x (k - a))).set (k) y).set (k - 1) x)]) kQ rfl kQ kQ kQ kQ kQ kQ (hS.up (Up.drew _)) ?_ _ _ rfl rfl ⟨rfl, rfl⟩ ⟨rfl, rfl⟩ ?_ ?_ ?_
    ·refine aC (.inr ⟨rfl, .inr fun W => PEv.mv rfl⟩) (aC (.inr ⟨rfl, .inr fun W => PEv.mv rfl⟩) (aC (.inr ⟨rfl, .inr fun W => PEv.mv rfl⟩) (aC (.inr ⟨rfl, .inr fun W => PEv.mv rfl⟩) (aC (.inr ⟨rfl, .inr fun W => PEv.dec (.t rfl) oQ oQ⟩) (aC (.inr ⟨rfl, .inr fun W => PEv.mv rfl⟩) (aC (.inr ⟨rfl, .inr fun W => PEv.mv rfl⟩) (aC (.inr ⟨rfl, .inr fun W => PEv.dec (.t rfl) oQ oQ⟩) (aC (.inr ⟨rfl, .inr fun W => PEv.indexAddr underlying25 sizeOf28 (.t rfl) (.t rfl) oQ⟩) (aC (.inr ⟨rfl, .inl ⟨by kernel_rfl, fun W hS => PEv.lc rfl ((hS.own 0 rfl).at (fun _ => rfl) hky)⟩⟩) (aC (.inr ⟨rfl, .inr fun W => PEv.mv rfl⟩) (aC (.inr ⟨rfl, .inr fun W => PEv.mv rfl⟩) (aC (.inr ⟨rfl, .inr fun W => PEv.indexAddr underlying25 sizeOf28 (.t rfl) (.t rfl) oQ⟩) (aC (.inr ⟨rfl, .inl ⟨by kernel_rfl, fun W hS => PEv.lc rfl ((hS.own 0 rfl).at (fun _ => rfl) hkx)⟩⟩) (aC (.inr ⟨rfl, .inr fun W => PEv.indexAddr underlying25 sizeOf28 (.t rfl) (.t rfl) oQ⟩) (aC (.inl (by simp)) (aC (.inr ⟨rfl, .inr fun W => PEv.indexAddr underlying25 sizeOf28 (.t rfl) (.t rfl) oQ⟩) (aC (.inl (by simp)) ?_)))))))))))))))))
     exact allL.nil
    ·intro W hS
     exact SEv.mono (SEv.Ga (i := k) (z := y) sizeOf28 (fun _ => rfl) Fact.one (.t rfl) (.t rfl) (hS.own 0 rfl) oQ) (fun _ h => hS.Ez 0 rfl h)
    ·intro W hS
     exact SEv.mono (SEv.Ga (i := k - 1) (z := x) sizeOf28 (fun _ => rfl) Fact.one (.t rfl) (.t rfl) (hS.own 0 rfl) oQ) (fun _ h => hS.Ez 0 rfl h)
    intro w8 hS
    have hS : Wx.Sep (J 28 19 Fact.cells (.slice (some ⟨g, 0, none⟩) m cp) (xs)).foot w0 w8 [J 28 19 Fact.cells (.slice (some ⟨g, 0, none⟩) m cp) (((E7 xs a (mm + 1) (C4 (C3 xs a mm) x (k - a))).set (k) y).set (k - 1) x)] := hS
    refine Ae (Ac (Aa (Ab rfl (I (.dec (.t rfl) oQ oQ) (LW.A rfl (LW.nil (Ar ?_)))))))
    exact ⟨k - 1, ⟨⟨by omega, by omega⟩, by have := Yp (xs := xs) (a := a) (b := mm + 1) (x := x) (p := k - a - 1) (y := y) oQ oQ oQ oQ hy; rw [show k - a - 1 + 1 = k - a by omega, show a + (k - a) = k by omega, show a + (k - a - 1) = k - 1 by omega] at this; rw [show k - 1 - a = k - a - 1 by omega, ← this]; exact hS⟩, tQ, by omega⟩
   refine Bl (Ad (Ad (Aq (Ac (Ak (Ap (Ih rfl ⟨_, rfl, ?_⟩)))))))
   have hk2 : k = i := by simp at h110; omega
   subst hk2
   exact ⟨rfl, _, oA hx oQ oQ hsA hL (by rw [hij2]; exact hR), ⟨hS.fr, hS.get 0 rfl, fun _ h => .inl h⟩⟩
  | false =>
   have hq12 := of_decide_eq_false hq12
   obtain ⟨mid, hmid⟩ : ∃ mid, mid = (a + b) / 2 := ⟨_, rfl⟩
   refine Aa (Ab rfl (Ab rfl (I (.M9 (.t rfl) (.t rfl) oQ oQ) (I (.fa (PEv.eql (.t rfl) (.const _)) (decide_eq_false oQ)) (Ai (CW.f rfl (Aj (Ac (Af (Ab rfl (Ab rfl (I (.addN (.t rfl) (.t rfl) oQ) (I (.val (v' := vu (a + b)) (PEv.conv (k' := .u64) (by rw [underlying3]; rfl) underlying185 (.t rfl)) (Ra oQ)) (I (.val (v' := vu ((a + b) / 2)) (PEv.U9 (j := 1) (.t rfl) (.const _)) Oo) (I (.val (v' := vi ((mid : Nat) : Int)) (PEv.conv (k' := .i64) (by rw [underlying185]; rfl) underlying3 (.t rfl)) (by rw [hmid]; exact Rb oQ)) (LW.A rfl (Ao (Aa (Ab rfl (Ab rfl (I (.addN (.t rfl) (.t rfl) oQ) (LW.A rfl (Ao (Aa (Ay (Ay (Ai (M0 (fun a1 W => ∃ s0 r0 : Nat, Ag 220 [] ([(0, .eq (.slice (some ⟨g, 0, none⟩) m cp)), (1, .eq (vi (a : Int))), (2, .eq (vi (mm : Int))), (3, .eq (vi (b : Int))), (4, .eq (.func (.func cf) #[] lb)), (18, .eq (vi (mid : Int))), (19, .eq (vi ((mid + mm : Nat) : Int))), (20, .eq (vi (s0 : Int))), (21, .eq (vi (r0 : Int)))]) a1 W ∧ ((s0 = mid + mm - b ∧ r0 = mid ∧ mid < mm) ∨ (s0 = a ∧ r0 = mm ∧ mm ≤ mid)) ∧ Wx.Sep (J 28 19 Fact.cells (.slice (some ⟨g, 0, none⟩) m cp) (xs)).foot w0 W [J 28 19 Fact.cells (.slice (some ⟨g, 0, none⟩) m cp) (xs)]) ?_ ?_))))))))))))))))))))))))))))
   ·skip
    refine Af (Ab rfl (Ab rfl (I (.gtr (.t rfl) (.t rfl)) (Ai (CW.b rfl (fun h140 => ?_) (fun h140 => ?_))))))
    ·replace h140 := dQ h140
     refine Af (Ab rfl (Ab rfl (I (.M9 (.t rfl) (.t rfl) oQ oQ) (LW.A rfl (Ai (Aa (Ab rfl (LW.A rfl (LW.nil ?_)))))))))
     exact fun a ha => ⟨_, _, ha.sub tQ, (by exact .inl ⟨rfl, rfl, by omega⟩), hS⟩
    replace h140 := dQ h140
    refine Af (Ab rfl (LW.A rfl (Ai (Aa (Ab rfl (LW.A rfl (LW.nil ?_)))))))
    exact fun a ha => ⟨_, _, ha.sub tQ, (by exact .inr ⟨rfl, rfl, by omega⟩), hS⟩
   rintro a1 w9 ⟨s0, r0, ha, hsr, hS⟩
   revert a1
   show CW none _ _ _ _ _ _ _ _
   refine Af (Ab rfl (I (.dec (.t rfl) oQ oQ) (LW.A rfl (Ao (An (A8 (σ := Nat × Nat) (fun s w => (s0 ≤ s.1 ∧ s.1 ≤ s.2 ∧ s.2 ≤ r0) ∧ (s.1 = s0 ∨ ∃ u v, xs[mid + mm - s.1]? = some u ∧ xs[s.1 - 1]? = some v ∧ Hu (key u) (key v) = false) ∧ (s.2 = r0 ∨ ∃ u v, xs[mid + mm - 1 - s.2]? = some u ∧ xs[s.2]? = some v ∧ Hu (key u) (key v) = true) ∧ (Wx.Sep (J 28 19 Fact.cells (.slice (some ⟨g, 0, none⟩) m cp) (xs)).foot w0 w [J 28 19 Fact.cells (.slice (some ⟨g, 0, none⟩) m cp) (xs)])) (fun s => [(20, .eq (vi (s.1 : Int))), (21, .eq (vi (s.2 : Int)))]) ([(0, .eq _), (1, .eq _), (2, .eq _), (3, .eq _), (4, .eq _), (18, .eq _), (19, .eq _), (22, .eq _)]) (fun s => s.2 - s.1) (s0, r0) ?_ tQ ?_))))))
   ·exact ⟨⟨Nat.le_refl _, by show s0 ≤ r0; omega, Nat.le_refl _⟩, .inl rfl, .inl rfl, hS⟩
   rintro ⟨s, r⟩ w10 ⟨hq, hs, hr, hS⟩
   dsimp only at hq hs hr hS
   change CW _ _ _ _ _ _ _ ([(20, .eq (vi (s : Int))), (21, .eq (vi (r : Int)))] ++ _) _
   refine Am (Af (Ab rfl (Ab rfl (I (.l2 rfl rfl) (Ai (CW.b rfl (fun h151 => ?_) (fun h151 => ?_)))))))
   ·replace h151 := dQ h151
    refine Aj (Ac (An (Af (Ab rfl (Ab rfl (I (.addN (.t rfl) (.t rfl) oQ) (I (.val (v' := vu (s + r)) (PEv.conv (k' := .u64) (by rw [underlying3]; rfl) underlying185 (.t rfl)) (Ra oQ)) (I (.val (v' := vu ((s + r) / 2)) (PEv.U9 (j := 1) (.t rfl) (.const _)) Oo) (I (.val (v' := vi (((s + r) / 2 : Nat) : Int)) (PEv.conv (k' := .i64) (by rw [underlying185]; rfl) underlying3 (.t rfl)) (Rb oQ)) (LW.A rfl (Ao ?_)))))))))))
    have hlt : s < r := by simp at h151; omega
    obtain ⟨u, hu_⟩ := Au (xs := xs) (i := mid + mm - 1 - (s + r) / 2) oQ
    obtain ⟨v, hv_⟩ := Au (xs := xs) (i := (s + r) / 2) oQ
    refine C5 kQ kQ rfl rfl (U (.mv rfl) (U (.mv rfl) (U (.mv rfl) (U (.mv rfl) (U (.M9 (.t rfl) (.t rfl) oQ oQ) (U (.indexAddr underlying25 sizeOf28 (.t rfl) (.t rfl) oQ) (U (.lc rfl ((hS.own 0 rfl).at (fun _ => rfl) hu_)) (U (.mv rfl) (U (.mv rfl) (U (.indexAddr underlying25 sizeOf28 (.t rfl) (.t rfl) oQ) (U (.lc rfl ((hS.own 0 rfl).at (fun _ => rfl) hv_)) (HW.c (fun a w _ ha => Cs (.t rfl) (.ct rfl (.cu rfl)) (hen) a ha) rfl rfl (fun w hu => hcmp w (hS.fr.trans (hu.fr _)) u v) (U (.lss (.t rfl) (.const _)) (U (.n1 rfl) (HW.nil ?_)))))))))))))))
    intro w11 uw11
    replace hS := hS.up uw11
    refine Ac (CW.b rfl (fun h171 => ?_) (fun h171 => ?_))
    ·replace h171 := dQ h171
     refine Aa (Ab rfl (I (.ic rfl oQ) (LW.A rfl (LW.nil (Ae (Ar ?_))))))
     exact ⟨((s + r) / 2 + 1, r), ⟨⟨by show s0 ≤ (s + r) / 2 + 1; omega, by show (s + r) / 2 + 1 ≤ r; omega, by show r ≤ r0; omega⟩, .inr ⟨u, v, by show xs[mid + mm - ((s + r) / 2 + 1)]? = some u; rw [show mid + mm - ((s + r) / 2 + 1) = mid + mm - 1 - (s + r) / 2 by omega]; exact hu_, hv_, by rw [← Hz]; simpa using h171⟩, hr, hS⟩, tQ, by omega⟩
    replace h171 := dQ h171
    refine Aa (Ab rfl (LW.A rfl (LW.nil (Ae (Ar ?_)))))
    exact ⟨(s, (s + r) / 2), ⟨⟨by show s0 ≤ s; omega, by show s ≤ (s + r) / 2; omega, by show (s + r) / 2 ≤ r0; omega⟩, hs, .inr ⟨u, v, hu_, hv_, by rw [← Hz]; simpa using h171⟩, hS⟩, tQ, by omega⟩
   replace h151 := dQ h151
   refine Bl (Ad (Ad (Aq (Ac (Am ?_)))))
   have hsr2 : s = r := by simp at h151; omega
   obtain ⟨e, he⟩ : ∃ e, e = mid + mm - s := ⟨_, rfl⟩
   have hsm : s ≤ mm := by omega
   have hme : mm ≤ e := by omega
   have has : a ≤ s := by omega
   have heb : e ≤ b := by omega
   have hmd : mid = s + (e - mm) := by omega
   have hrl : (J0 xs s mm e).length = m := by rw [Fq hsm hme (by omega)]; exact hxl
   refine Aa (Ab rfl (Ab rfl (I (.val (v' := vi (e : Int)) (PEv.M9 (.t rfl) (.t rfl) oQ oQ) (by rw [he])) (LW.A rfl (Ai (M0 (fun a1 W => Ag 220 [] ([(0, .eq (.slice (some ⟨g, 0, none⟩) m cp)), (1, .eq (vi (a : Int))), (3, .eq (vi (b : Int))), (4, .eq (.func (.func cf) #[] lb)), (18, .eq (vi (mid : Int))), (20, .eq (vi (s : Int))), (24, .eq (vi (e : Int)))]) a1 W ∧ Wx.Sep (J 28 19 Fact.cells (.slice (some ⟨g, 0, none⟩) m cp) (xs)).foot w0 W [J 28 19 Fact.cells (.slice (some ⟨g, 0, none⟩) m cp) (J0 xs s mm e)]) ?_ ?_))))))
   ·skip
    refine Af (Ab rfl (Ab rfl (I (.l2 rfl rfl) (Ab rfl (Fk rfl rfl (Fk rfl rfl (LW.gr rfl (fun hc => PEv.lss vQ vQ) (I (.pa rfl (fun hp => .cond rfl (by rw [hp]; rfl))) (Ai (CW.b rfl (fun h185 => ?_) (fun h185 => ?_)))))))))))
    ·refine Aa (Ab rfl (Ab rfl (Ab rfl (Ab rfl (Ab rfl (A3 (eC (.ct rfl (.ct rfl (.ct rfl (.ct rfl (.cu rfl))))) (GQ)) rfl (bV s mm e _ g m cp xs _ (hS.own 0 rfl) h63 (by have := L4 h185; omega) (by have := L4 h185; omega) oQ) ?_))))))
     rintro _ w12 ⟨rfl, uw12⟩
     replace hS := hS.Ez 0 rfl uw12
     change Wx.Sep _ _ _ [_] at hS
     refine LW.nil ?_
     exact fun a ha => ⟨ha.sub tQ, (by exact hS)⟩
    refine Aj ?_
    exact fun a ha => ⟨ha.sub tQ, (by (rw [oB (bU h185) hsm hme (by omega)]; exact hS))⟩
   rintro a1 w13 ⟨ha, hS⟩
   revert a1
   show CW none _ _ _ _ _ _ _ _
   refine M0 (fun a1 W => Ag 220 [] ([(0, .eq (.slice (some ⟨g, 0, none⟩) m cp)), (3, .eq (vi (b : Int))), (4, .eq (.func (.func cf) #[] lb)), (18, .eq (vi (mid : Int))), (24, .eq (vi (e : Int)))]) a1 W ∧ ∃ X, StS key (C3 (J0 xs s mm e) a mid) X ∧ Wx.Sep (J 28 19 Fact.cells (.slice (some ⟨g, 0, none⟩) m cp) (xs)).foot w0 W [J 28 19 Fact.cells (.slice (some ⟨g, 0, none⟩) m cp) (E7 (J0 xs s mm e) a mid X)]) ?_ ?_
   ·skip
    refine Af (Ab rfl (Ab rfl (I (.l2 rfl rfl) (Ab rfl (Fk rfl rfl (Fk rfl rfl (LW.gr rfl (fun hc => PEv.lss vQ vQ) (I (.pa rfl (fun hp => .cond rfl (by rw [hp]; rfl))) (Ai (CW.b rfl (fun h199 => ?_) (fun h199 => ?_)))))))))))
    ·refine Aa (Ab rfl (Ab rfl (Ab rfl (Ab rfl (Ab rfl (A3 (eC (.ct rfl (.ct rfl (.ct rfl (.ct rfl (.cu rfl))))) (eU)) rfl (ih a s mid (J0 xs s mm e) _ oQ (hS.own 0 rfl) (fun W hF x y => hcmp W (hS.fr.trans hF) x y) (by have := L4 h199; omega) (by have := L4 h199; omega) oQ (fZ hsA hsB oQ oQ oQ oQ oQ).1 (fZ hsA hsB oQ oQ oQ oQ oQ).2) ?_))))))
     rintro _ w14 ⟨rfl, X, hX, uw14⟩
     replace hS := hS.Ez 0 rfl uw14
     change Wx.Sep _ _ _ [_] at hS
     refine LW.nil ?_
     exact fun a ha => ⟨ha.sub tQ, (by exact ⟨X, hX, hS⟩)⟩
    refine Aj ?_
    exact fun a ha => ⟨ha.sub tQ, (by exact ⟨_, StS.refl (jR hsA hsB has hsm hme heb oQ hmd (bU h199)), by rw [G5 oQ (by omega)]; exact hS⟩)⟩
   rintro a1 w15 ⟨ha, X, hX, hS⟩
   revert a1
   show CW none _ _ _ _ _ _ _ _
   refine Am ?_
   have hXl : X.length = mid - a := by rw [hX.same.length, Cj (by omega)]
   have hrl2 : (E7 (J0 xs s mm e) a mid X).length = m := by rw [Dy oQ oQ hXl]; exact hrl
   refine Aa (Ab rfl (Ab rfl (I (.l2 rfl rfl) (Ab rfl (Fk rfl rfl (Fk rfl rfl (LW.gr rfl (fun hc => PEv.lss vQ vQ) (I (.pa rfl (fun hp => .cond rfl (by rw [hp]; rfl))) (Ai (CW.b rfl (fun h213 => ?_) (fun h213 => ?_)))))))))))
   ·refine Aa (Ab rfl (Ab rfl (Ab rfl (Ab rfl (Ab rfl (A3 (eC (.ct rfl (.ct rfl (.ct rfl (.ct rfl (.cu rfl))))) (eU)) rfl (ih mid e b (E7 (J0 xs s mm e) a mid X) _ oQ (hS.own 0 rfl) (fun W hF x y => hcmp W (hS.fr.trans hF) x y) (by have := L4 h213; omega) (by have := L4 h213; omega) oQ (gA hsA hsB oQ oQ oQ oQ oQ oQ hXl).1 (gA hsA hsB oQ oQ oQ oQ oQ oQ hXl).2) ?_))))))
    rintro _ w16 ⟨rfl, Y, hY, uw16⟩
    replace hS := hS.Ez 0 rfl uw16
    change Wx.Sep _ _ _ [_] at hS
    refine LW.nil (C7 rfl ⟨_, rfl, ?_⟩)
    obtain ⟨Y, hY, hS2⟩ : ∃ Y, StS key (C3 (E7 (J0 xs s mm e) a mid X) mid b) Y ∧ Wx.Sep (J 28 19 Fact.cells (.slice (some ⟨g, 0, none⟩) m cp) (xs)).foot w0 w16 [J 28 19 Fact.cells (.slice (some ⟨g, 0, none⟩) m cp) (E7 (E7 (J0 xs s mm e) a mid X) mid b Y)] := by exact ⟨Y, hY, hS⟩
    have hd := Yt has hsm hme heb oQ hmd hsA hsB (nY hsA hsB hsm hme oQ (hs.elim (fun h => hsr.elim (fun q => .inr (.inl oQ)) (fun q => .inl oQ)) (fun ⟨u, v, e1, e2, e3⟩ => .inr (.inr ⟨u, v, by rw [he]; exact e1, e2, e3⟩)))) (nZ hsA hsB has heb oQ oQ (hr.elim (fun h => hsr.elim (fun q => .inr (.inl oQ)) (fun q => .inl oQ)) (fun ⟨u, v, e1, e2, e3⟩ => .inr (.inr ⟨u, v, by rw [he, hsr2, show mid + mm - r - 1 = mid + mm - 1 - r by omega]; exact e1, by rw [hsr2]; exact e2, e3⟩)))) hX hY
    rw [hd.2] at hS2
    exact ⟨rfl, X ++ Y, hd.1, ⟨hS2.fr, hS2.get 0 rfl, fun _ h => .inl h⟩⟩
   refine Aj (C7 rfl ⟨_, rfl, ?_⟩)
   obtain ⟨Y, hY, hS2⟩ : ∃ Y, StS key (C3 (E7 (J0 xs s mm e) a mid X) mid b) Y ∧ Wx.Sep (J 28 19 Fact.cells (.slice (some ⟨g, 0, none⟩) m cp) (xs)).foot w0 w15 [J 28 19 Fact.cells (.slice (some ⟨g, 0, none⟩) m cp) (E7 (E7 (J0 xs s mm e) a mid X) mid b Y)] := by exact ⟨_, StS.refl (jS hsA hsB has hsm hme heb oQ hmd hXl (bU h213)), by rw [G5 oQ (by omega)]; exact hS⟩
   have hd := Yt has hsm hme heb oQ hmd hsA hsB (nY hsA hsB hsm hme oQ (hs.elim (fun h => hsr.elim (fun q => .inr (.inl oQ)) (fun q => .inl oQ)) (fun ⟨u, v, e1, e2, e3⟩ => .inr (.inr ⟨u, v, by rw [he]; exact e1, e2, e3⟩)))) (nZ hsA hsB has heb oQ oQ (hr.elim (fun h => hsr.elim (fun q => .inr (.inl oQ)) (fun q => .inl oQ)) (fun ⟨u, v, e1, e2, e3⟩ => .inr (.inr ⟨u, v, by rw [he, hsr2, show mid + mm - r - 1 = mid + mm - 1 - r by omega]; exact e1, by rw [hsr2]; exact e2, e3⟩)))) hX hY
   rw [hd.2] at hS2
   exact ⟨rfl, X ++ Y, hd.1, ⟨hS2.fr, hS2.get 0 rfl, fun _ h => .inl h⟩⟩
set_option maxHeartbeats 2000000 in
theorem bW (cf : Nat) (lb : Array Go.Value) (key : Fact → K2) (hen : ∀ args w, (callFunc cf args).run Tryz.prog w = .ok (.enter cf args) w) (g m cp : Nat) (xs : List Fact) (w : World) (ho : OwnS w 0 28 19 Fact.cells (.slice (some ⟨g, 0, none⟩) m cp) xs) (h63 : m ≤ 1000000000) (hcmp : ∀ W, Fr (J 28 19 Fact.cells (.slice (some ⟨g, 0, none⟩) m cp) (xs)).foot w W → ∀ x y, Ret Tryz.prog cf (#[.agg (Fact.cells x), .agg (Fact.cells y)] ++ lb) W fun r W' => r = vi (bT (key x) (key y)) ∧ Up W W') : Ret prog 259 #[.slice (some ⟨g, 0, none⟩) m cp, vi (m : Int), .func (.func cf) #[] lb] w fun r w' => r = .tuple #[] ∧ ∃ zs, StS key xs zs ∧ Stp (J 28 19 Fact.cells (.slice (some ⟨g, 0, none⟩) m cp) (xs)) (J 28 19 Fact.cells (.slice (some ⟨g, 0, none⟩) m cp) (zs)) w w' := by
 obtain ⟨w0, rfl, _⟩ := W0 w
 have hxl := ho.len
 have hS : Wx.Sep (J 28 19 Fact.cells (.slice (some ⟨g, 0, none⟩) m cp) (xs)).foot w0 w0 [J 28 19 Fact.cells (.slice (some ⟨g, 0, none⟩) m cp) (xs)] := Sep.cons ho (fun _ h => h) (Sep.start _ _) (by simp)
 refine cT 63 func259 rfl (Af (I (.val (v' := vi ((20 : Nat) : Int)) (PEv.assign (.const _)) rfl) (Ao (Aa (Ab rfl (Ay (LW.A rfl (Ao (An (A8 (σ := Nat × List Fact) (fun s w => (s.1 ≤ m) ∧ (s.2.length = m) ∧ (Ins key s.2 20 s.1) ∧ (sameF key xs s.2) ∧ (Wx.Sep (J 28 19 Fact.cells (.slice (some ⟨g, 0, none⟩) m cp) (xs)).foot w0 w [J 28 19 Fact.cells (.slice (some ⟨g, 0, none⟩) m cp) (s.2)])) (fun s => [(7, .eq (vi (s.1 : Int))), (8, .eq (vi ((s.1 + 20 : Nat) : Int)))]) ([(0, .eq _), (1, .eq _), (2, .eq _), (6, .eq _)]) (fun s => m - s.1) (0, xs) ?_ tQ ?_))))))))))
 ·exact ⟨Nat.zero_le _, hxl, Ins.zero xs 20 cQ, sameF.refl xs, hS⟩
 rintro ⟨a, ys⟩ w1 ⟨ha, hyl, hI, hsf, hS⟩
 dsimp only at ha hyl hI hsf hS
 change CW _ _ _ _ _ _ _ ([(7, .eq (vi (a : Int))), (8, .eq (vi ((a + 20 : Nat) : Int)))] ++ _) _
 refine Am (Af (Ab rfl (Ab rfl (I (.leq (.t rfl) (.t rfl)) (Ai (CW.b rfl (fun h13 => ?_) (fun h13 => ?_)))))))
 ·refine Aj (Ac (An (Am ?_)))
  have hal : a + 20 ≤ m := by simp at h13; omega
  refine Aa (Ab rfl (Ab rfl (Ab rfl (Ab rfl (A3 (eC (.ct rfl (.ct rfl (.ct rfl (.cu rfl)))) (mP)) rfl (Mv a (a + 20) cf lb key hen g m cp ys _ (hS.own 0 rfl) h63 (fun W hF x y => hcmp W (hS.fr.trans hF) x y) oQ oQ) ?_)))))
  rintro _ w2 ⟨rfl, zs, hz, uw2⟩
  replace hS := hS.Ez 0 rfl uw2
  refine Ao (Aa (Ab rfl (LW.A rfl (Ai (Aa (Ab rfl (Ab rfl (I (.addN (.t rfl) (.t rfl) oQ) (LW.A rfl (LW.nil (Ae (Ar ?_))))))))))))
  exact ⟨(a + 20, E7 ys a (a + 20) zs), ⟨by show a + 20 ≤ m; omega, by show (E7 ys a (a + 20) zs).length = m; rw [Dy oQ oQ (by rw [hz.same.length, Cj (by omega)])]; exact hyl, hI.step cQ oQ hz, hsf.step oQ oQ hz, hS⟩, tQ, by show m - (a + 20) < m - a; omega⟩
 refine Bl (Ad (Ad (Aq (Ac (Am ?_)))))
 have hal : m < a + 20 := by simp at h13; omega
 refine Aa (Ab rfl (Ab rfl (Ab rfl (Ab rfl (A3 (eC (.ct rfl (.ct rfl (.ct rfl (.cu rfl)))) (mP)) rfl (Mv a m cf lb key hen g m cp ys _ (hS.own 0 rfl) h63 (fun W hF x y => hcmp W (hS.fr.trans hF) x y) oQ oQ) ?_)))))
 rintro _ w3 ⟨rfl, zs, hz, uw3⟩
 replace hS := hS.Ez 0 rfl uw3
 refine Ai (An (A8 (σ := Nat × List Fact) (fun s w => (0 < s.1) ∧ (s.2.length = m) ∧ (Bks key s.2 s.1) ∧ (sameF key xs s.2) ∧ (Wx.Sep (J 28 19 Fact.cells (.slice (some ⟨g, 0, none⟩) m cp) (xs)).foot w0 w [J 28 19 Fact.cells (.slice (some ⟨g, 0, none⟩) m cp) (s.2)])) (fun s => [(6, .eq (vi (s.1 : Int)))]) ([(0, .eq _), (1, .eq _), (2, .eq _)]) (fun s => m - s.1) (20, E7 ys a m zs) ?_ tQ ?_))
 ·exact ⟨by show 0 < 20; omega, by show (E7 ys a m zs).length = m; rw [Dy oQ oQ (by rw [hz.same.length, Cj (by omega)])]; exact hyl, by have := hI.last (zs := zs) oQ oQ (by rw [hyl]; exact hz); rw [hyl] at this; exact this, hsf.step oQ oQ hz, hS⟩
 rintro ⟨B, ys⟩ w4 ⟨hB, hyl, hI, hsf, hS⟩
 dsimp only at hB hyl hI hsf hS
 change CW _ _ _ _ _ _ _ ([(6, .eq (vi (B : Int)))] ++ _) _
 refine Am (Af (Ab rfl (Ab rfl (I (.l2 rfl rfl) (Ai (CW.b rfl (fun h30 => ?_) (fun h30 => ?_)))))))
 ·refine Aj (Ac (An (Am ?_)))
  have hBm : B < m := by simp at h30; omega
  refine Aa (Ab rfl (I (.val (v' := vi ((2 * B : Nat) : Int)) (PEv.Jj (.const _) (.t rfl)) (Sm oQ)) (Ay (LW.A rfl (Ao (An (A8 (σ := Nat × List Fact) (fun s w => (s.1 ≤ m) ∧ (s.2.length = m) ∧ (Mrg key s.2 B s.1) ∧ (sameF key xs s.2) ∧ (Wx.Sep (J 28 19 Fact.cells (.slice (some ⟨g, 0, none⟩) m cp) (xs)).foot w0 w [J 28 19 Fact.cells (.slice (some ⟨g, 0, none⟩) m cp) (s.2)])) (fun s => [(7, .eq (vi (s.1 : Int))), (8, .eq (vi ((2 * B + s.1 : Nat) : Int)))]) ([(0, .eq _), (1, .eq _), (2, .eq _), (6, .eq _)]) (fun s => m - s.1) (0, ys) ?_ tQ ?_)))))))
  ·exact ⟨Nat.zero_le _, hyl, Mrg.start hB hI, hsf, hS⟩
  rintro ⟨a, ys⟩ w5 ⟨ha, hyl, hM, hsf, hS⟩
  dsimp only at ha hyl hM hsf hS
  change CW _ _ _ _ _ _ _ ([(7, .eq (vi (a : Int))), (8, .eq (vi ((2 * B + a : Nat) : Int)))] ++ _) _
  refine Am (Af (Ab rfl (Ab rfl (I (.leq (.t rfl) (.t rfl)) (Ai (CW.b rfl (fun h35 => ?_) (fun h35 => ?_)))))))
  ·refine Aj (Ac (An (Am ?_)))
   have hal : 2 * B + a ≤ m := by simp at h35; omega
   refine Aa (Ab rfl (Ab rfl (Ab rfl (Ab rfl (I (.addN (.t rfl) (.t rfl) oQ) (Ab rfl (Ab rfl (A3 (eC (.ct rfl (.ct rfl (.ct rfl (.ct rfl (.cu rfl))))) (eU)) rfl (Oq cf lb key hen g m cp h63 m a (a + B) (2 * B + a) ys _ oQ (hS.own 0 rfl) (fun W hF x y => hcmp W (hS.fr.trans hF) x y) oQ oQ oQ (hM.pre oQ).1 (hM.pre oQ).2) ?_))))))))
   rintro _ w6 ⟨rfl, zs, hz, uw6⟩
   replace hS := hS.Ez 0 rfl uw6
   refine Ao (Aa (Ab rfl (LW.A rfl (Ai (Aa (Ab rfl (Ab rfl (I (.val (v' := vi ((2 * B : Nat) : Int)) (PEv.Jj (.const _) (.t rfl)) (Sm oQ)) (I (.val (v' := vi ((2 * B + (2 * B + a) : Nat) : Int)) (PEv.addN (.t rfl) (.t rfl) oQ) (zN oQ)) (LW.A rfl (LW.nil (Ae (Ar ?_)))))))))))))
   exact ⟨(2 * B + a, E7 ys a (2 * B + a) zs), ⟨by show 2 * B + a ≤ m; omega, by show (E7 ys a (2 * B + a) zs).length = m; rw [Dy oQ oQ (by rw [hz.same.length, Cj (by omega)])]; exact hyl, hM.step hB oQ hz, hsf.step oQ oQ hz, hS⟩, tQ, by show m - (2 * B + a) < m - a; omega⟩
  refine Bl (Ad (Ad (Aq (Ac (Am (Am ?_))))))
  have hal : m < 2 * B + a := by simp at h35; omega
  refine Aa (Ab rfl (Ab rfl (I (.addN (.t rfl) (.t rfl) oQ) (LW.A rfl (Ao (Aa (Ab rfl (Ab rfl (I (.l2 rfl rfl) (Ai (CW.b rfl (fun h54 => ?_) (fun h54 => ?_))))))))))))
  ·have ham : a + B < m := by simp at h54; omega
   refine Aa (Ab rfl (Ab rfl (Ab rfl (Ab rfl (Ab rfl (A3 (eC (.ct rfl (.ct rfl (.ct rfl (.ct rfl (.cu rfl))))) (eU)) rfl (Oq cf lb key hen g m cp h63 m a (a + B) m ys _ oQ (hS.own 0 rfl) (fun W hF x y => hcmp W (hS.fr.trans hF) x y) oQ oQ (Nat.le_refl _) (hM.HI oQ oQ).1 (by have := (hM.HI oQ oQ).2; rw [hyl] at this; exact this)) ?_))))))
   rintro _ w7 ⟨rfl, zs, hz, uw7⟩
   replace hS := hS.Ez 0 rfl uw7
   refine Ai (Aa (Ab rfl (I (.val (v' := vi ((2 * B : Nat) : Int)) (PEv.Jj (.t rfl) (.const _)) (Vm oQ)) (LW.A rfl (LW.nil (Ae (Ar ?_)))))))
   exact ⟨(2 * B, E7 ys a m zs), ⟨by show 0 < 2 * B; omega, by show (E7 ys a m zs).length = m; rw [Dy oQ oQ (by rw [hz.same.length, Cj (by omega)])]; exact hyl, by have := hM.last (zs := zs) oQ oQ (by rw [hyl]; exact hz); rw [hyl] at this; exact this, hsf.step oQ oQ hz, hS⟩, tQ, by show m - 2 * B < m - B; omega⟩
  have ham : ¬ a + B < m := by simp at h54; omega
  refine Aj (Ac (Aa (Ab rfl (I (.val (v' := vi ((2 * B : Nat) : Int)) (PEv.Jj (.t rfl) (.const _)) (Vm oQ)) (LW.A rfl (LW.nil (Ae (Ar ?_))))))))
  exact ⟨(2 * B, ys), ⟨by show 0 < 2 * B; omega, hyl, hM.done oQ oQ oQ, hsf, hS⟩, tQ, by show m - 2 * B < m - B; omega⟩
 refine Bl (Ad (Ad (Aq (C7 rfl ⟨_, rfl, ?_⟩))))
 exact ⟨rfl, ys, hI.all (by simp at h30; omega) hsf, ⟨hS.fr, hS.get 0 rfl, fun _ h => .inl h⟩⟩
theorem Sn (cf : Nat) (lb : Array Go.Value) (key : Fact → K2) (hen : ∀ args w, (callFunc cf args).run Tryz.prog w = .ok (.enter cf args) w) (g m cp : Nat) (xs : List Fact) (w : World) (ho : OwnS w 0 28 19 Fact.cells (.slice (some ⟨g, 0, none⟩) m cp) xs) (h63 : m ≤ 1000000000) (hcmp : ∀ W, Fr (J 28 19 Fact.cells (.slice (some ⟨g, 0, none⟩) m cp) (xs)).foot w W → ∀ x y, Ret Tryz.prog cf (#[.agg (Fact.cells x), .agg (Fact.cells y)] ++ lb) W fun r W' => r = vi (bT (key x) (key y)) ∧ Up W W') : Ret prog 146 #[.slice (some ⟨g, 0, none⟩) m cp, .func (.func cf) #[] lb] w fun r w' => r = .tuple #[] ∧ ∃ zs, StS key xs zs ∧ Stp (J 28 19 Fact.cells (.slice (some ⟨g, 0, none⟩) m cp) (xs)) (J 28 19 Fact.cells (.slice (some ⟨g, 0, none⟩) m cp) (zs)) w w' := by
 obtain ⟨w0, rfl, _⟩ := W0 w
 have hS : Wx.Sep (J 28 19 Fact.cells (.slice (some ⟨g, 0, none⟩) m cp) (xs)).foot w0 w0 [J 28 19 Fact.cells (.slice (some ⟨g, 0, none⟩) m cp) (xs)] := Sep.cons ho (fun _ h => h) (Sep.start _ _) (by simp)
 refine cT 9 func146 rfl (Aa (Ab rfl (Ab rfl (I (.Di underlying25 (.t rfl)) (Ab rfl (A3 (eC (.ct rfl (.ct rfl (.cu rfl))) (xI)) rfl (bW cf lb key hen g m cp xs _ (hS.own 0 rfl) h63 (fun W hF x y => hcmp W (hS.fr.trans hF) x y)) ?_))))))
 rintro _ w1 ⟨rfl, zs, hz, uw1⟩
 replace hS := hS.Ez 0 rfl uw1
 refine LW.nil (C7 rfl ⟨_, rfl, ?_⟩)
 exact ⟨rfl, zs, hz, ⟨hS.fr, hS.get 0 rfl, fun _ h => .inl h⟩⟩
theorem Uq (fv : Go.Value) (w : World) : Ret prog 321 #[.slice none 0 0, vi 0, vi 0, fv] w fun r w' => r = .tuple #[] ∧ Up w w' := by
 have hW := Up.refl w
 obtain ⟨w0, rfl, _⟩ := W0 w
 refine cT 53 func321 rfl (Af (Ab rfl (I (.val (v' := vi 1) (PEv.add (.t rfl) (.const _) oQ oQ) rfl) (LW.A rfl (Ai (An (A8 (σ := Unit) (fun s w => (True) ∧ (Up w0 w)) (fun s => [(8, .eq (vi 1))]) ([(0, .eq _), (1, .eq _), (2, .eq _), (3, .eq _)]) (fun s => 0) () ?_ tQ ?_)))))))
 ·exact ⟨trivial, hW⟩
 rintro _ w1 ⟨ht, hW⟩
 refine Am (Af (Ab rfl (Ab rfl (I (.fa (PEv.l2 rfl rfl) cQ) (Ai (CW.f rfl (Bl (Ad (Ad (Aq (C7 rfl ⟨_, rfl, ?_⟩)))))))))))
 exact ⟨rfl, hW⟩
theorem bX (fv : Go.Value) (w : World) : Ret prog 259 #[.slice none 0 0, vi 0, fv] w fun r w' => r = .tuple #[] ∧ Up w w' := by
 have hW := Up.refl w
 obtain ⟨w0, rfl, _⟩ := W0 w
 refine cT 63 func259 rfl (Af (Ay (Ao (Aa (Ab rfl (Ay (LW.A rfl (Ao (An (A8 (σ := Unit) (fun s w => (True) ∧ (Up w0 w)) (fun s => [(7, .eq (vi 0)), (8, .eq (vi 20))]) ([(0, .eq _), (1, .eq _), (2, .eq _), (6, .eq _)]) (fun s => 0) () ?_ tQ ?_))))))))))
 ·exact ⟨trivial, hW⟩
 rintro _ w1 ⟨ht, hW⟩
 refine Am (Af (Ab rfl (Ab rfl (I (.fa (PEv.leq (.t rfl) (.t rfl)) cQ) (Ai (CW.f rfl (Bl (Ad (Ad (Aq (Ac (Af (Ab rfl (Ab rfl (Ab rfl (Ab rfl (A3 (eC (.ct rfl (.ct rfl (.ct rfl (.cu rfl)))) (mP)) rfl (Uq _ _) ?_)))))))))))))))))
 rintro _ w2 ⟨rfl, uw2⟩
 replace hW := hW.up uw2
 refine Ai (An (A8 (σ := Unit) (fun s w => (True) ∧ (Up w0 w)) (fun s => [(6, .eq (vi 20))]) ([(0, .eq _), (1, .eq _), (2, .eq _)]) (fun s => 0) () ?_ tQ ?_))
 ·exact ⟨trivial, hW⟩
 rintro _ w3 ⟨ht, hW⟩
 refine Am (Af (Ab rfl (Ab rfl (I (.fa (PEv.l2 rfl rfl) cQ) (Ai (CW.f rfl (Bl (Ad (Ad (Aq (C7 rfl ⟨_, rfl, ?_⟩)))))))))))
 exact ⟨rfl, hW⟩
theorem Sq (fv : Go.Value) (w : World) : Ret prog 146 #[.slice none 0 0, fv] w fun r w' => r = .tuple #[] ∧ Up w w' := by
 have hW := Up.refl w
 obtain ⟨w0, rfl, _⟩ := W0 w
 refine cT 9 func146 rfl (Aa (Ab rfl (Ab rfl (I (.Di underlying25 (.t rfl)) (Ab rfl (A3 (eC (.ct rfl (.ct rfl (.cu rfl))) (xI)) rfl (bX _ _) ?_))))))
 rintro _ w1 ⟨rfl, uw1⟩
 replace hW := hW.up uw1
 refine LW.nil (C7 rfl ⟨_, rfl, ?_⟩)
 exact ⟨rfl, hW⟩
theorem bY (of : Nat) (w : World) : Ret prog 59 #[.slice none 0 0, .func (.func of) #[] #[]] w fun r w' => r = .tuple #[] ∧ Up w w' := by
 have hW := Up.refl w
 obtain ⟨w0, rfl, _⟩ := W0 w
 refine cT 7 func59 rfl (Af (Al (.Pc (.t rfl) rfl) rfl ?_))
 rintro _ w1 ⟨B3, rfl, NB3⟩
 replace hW := hW.up NB3.up
 have hB3 := NB3.blk
 refine Ai (Aa (Ab rfl (I (.makeFunc (.cu rfl)) (A3 (eC (.u rfl rfl) (xA)) rfl (Sq _ _) ?_))))
 rintro _ w2 ⟨rfl, uw2⟩
 replace hW := hW.up uw2
 replace hB3 := hB3.up uw2
 refine LW.nil (C7 rfl ⟨_, rfl, ?_⟩)
 exact ⟨rfl, hW⟩
theorem Yy (of : Nat) (key : Fact → K2) (hen : ∀ args w, (callFunc of args).run Tryz.prog w = .ok (.enter of args) w) (hord : ∀ W x, Ret Tryz.prog of #[.agg x.cells] W fun r W' => r = .agg #[vi (key x).1, vi (key x).2] ∧ Up W W') (g m cp : Nat) (xs : List Fact) (w : World) (ho : OwnS w 0 28 19 Fact.cells (.slice (some ⟨g, 0, none⟩) m cp) xs) (h63 : m ≤ 1000000000) : Ret prog 59 #[.slice (some ⟨g, 0, none⟩) m cp, .func (.func of) #[] #[]] w fun r w' => r = .tuple #[] ∧ Stp (J 28 19 Fact.cells (.slice (some ⟨g, 0, none⟩) m cp) (xs)) (J 28 19 Fact.cells (.slice (some ⟨g, 0, none⟩) m cp) (Jb key xs)) w w' := by
 obtain ⟨w0, rfl, _⟩ := W0 w
 have hS : Wx.Sep (J 28 19 Fact.cells (.slice (some ⟨g, 0, none⟩) m cp) (xs)).foot w0 w0 [J 28 19 Fact.cells (.slice (some ⟨g, 0, none⟩) m cp) (xs)] := Sep.cons ho (fun _ h => h) (Sep.start _ _) (by simp)
 refine cT 7 func59 rfl (Af (Al (.Pc (.t rfl) rfl) rfl ?_))
 rintro _ w1 ⟨B3, rfl, NB3⟩
 have eB3 := NB3.at_
 have zB3 := NB3.size
 replace hS := hS.Bn NB3
 refine Ai ?_
 have hB3 := NB3.blk
 have hg := ho.lt g rfl
 replace hS : Wx.Sep (J 28 19 Fact.cells (.slice (some ⟨g, 0, none⟩) m cp) (xs)).foot w0 w1 [J 28 19 Fact.cells (.slice (some ⟨g, 0, none⟩) m cp) (xs)] := hS.take 1
 refine Aa (Ab rfl (I (.makeFunc (.cu rfl)) (A3 (eC (.u rfl rfl) (xA)) rfl (Sn 147 #[.pointer (some ⟨B3, 0, none⟩)] key DH g m cp xs _ (hS.own 0 rfl) h63 (fun W hF x y => jU of key hen hord x y B3 W (hB3.fr hF (fun (e : some g = some B3) => by cases e; omega)))) ?_)))
 rintro _ w2 ⟨rfl, zs, hz, uw2⟩
 replace hS := hS.Ez 0 rfl uw2
 refine LW.nil (C7 rfl ⟨_, rfl, ?_⟩)
 rw [hz.eq] at hS
 exact ⟨rfl, ⟨hS.fr, hS.get 0 rfl, fun _ h => .inl h⟩⟩
theorem Sr (of : Nat) (key : Fact → K2) (hen : ∀ args w, (callFunc of args).run Tryz.prog w = .ok (.enter of args) w) (hord : ∀ W x, Ret Tryz.prog of #[.agg x.cells] W fun r W' => r = .agg #[vi (key x).1, vi (key x).2] ∧ Up W W') (v : Go.Value) (xs : List Fact) (w : World) (ho : OwnS w 0 28 19 Fact.cells v xs) (h63 : xs.length ≤ 1000000000) : Ret prog 59 #[v, .func (.func of) #[] #[]] w fun r w' => r = .tuple #[] ∧ Stp (J 28 19 Fact.cells v xs) (J 28 19 Fact.cells v (Jb key xs)) w w' := by
 have h0 := ho
 obtain ⟨_, ⟨rfl, hn⟩ | ⟨g, cap, cur, rfl, _⟩⟩ := h0
 · have hx : xs = [] := List.eq_nil_of_length_eq_zero hn
   subst hx
   exact (bY of w).mono fun r w' ⟨e, u⟩ => ⟨e, (Stp.refl ho).up u⟩
 exact Yy of key hen hord g xs.length cap xs w ho h63
end Go.Proofs.YtgjogglfnkgapaaGreatDoor
namespace Go.Wx
open Go.RowKit
section
variable {P : Program} {n : Nat} {ds : List Deferred} {l : Env} {w : World} {d : Option Tmp} {ty : TypeId} {ps : String} {af : Array Edge} {g : Option (Nat × Bool)}
theorem PEv.J9 {T e k size : Nat} {z cs : Array Value} {xs : Array (Nat × Operand)} {vs : List (Nat × Value)} (hu : P.underlying T = some (.array k e)) (hz : ∀ w, (zeroValue T).run P w = .ok (.agg z) w) (hs : ∀ w, (sizeOf e).run P w = .ok size w)
   (hv : Parts l xs.toList vs) (hf : Instr.fill (fun i => some (i * size, size)) z vs = some cs) : PEv P n ds l w ⟨d, .build T xs, ty, ps, af, g⟩ (.agg cs) := fun a w' ha _ => by
 refine Cm ?_
 have e : (xs.map fun (i, x) => (i, a.eval x)) = vs.toArray := by apply Array.ext'; rw [← hv.map ha]; simp
 rw [e]
 simp only [Instr.build, Sem.run_bind, hz, Result.andThen, run_underlying hu, hs, Value.cells, hf]
 rfl
end
def Qv (f : Int → Value) (i : Nat) : List (Int × Value) := (List.range i).map fun j => (((j + 1 : Nat) : Int), f ((j + 1 : Nat) : Int))
theorem Ll {f : Int → Value} {i : Nat} {k : Int} {v : Value} : (k, v) ∈ Qv f i ↔ 1 ≤ k ∧ k ≤ i ∧ v = f k := by
 unfold Qv
 rw [List.mem_map]
 constructor
 · rintro ⟨j, hj, e⟩
   have := List.mem_range.1 hj
   cases e
   exact ⟨by omega, by omega, rfl⟩
 rintro ⟨h1, h2, rfl⟩
 refine ⟨(k - 1).toNat, List.mem_range.2 oQ, ?_⟩
 have : (((k - 1).toNat + 1 : Nat) : Int) = k := by omega
 rw [this]
theorem jV {f : Int → Value} {i : Nat} {k : Int} : k ∈ (Qv f i).map (·.1) ↔ 1 ≤ k ∧ k ≤ i := by
 rw [List.mem_map]
 constructor
 · rintro ⟨⟨k', v⟩, h, rfl⟩
   have := Ll.1 h
   exact ⟨this.1, this.2.1⟩
 rintro ⟨h1, h2⟩
 exact ⟨(k, f k), Ll.2 ⟨h1, h2, rfl⟩, rfl⟩
theorem Fi (f : Int → Value) (i : Nat) : Gw (Qv f i) ((i + 1 : Nat) : Int) (f ((i + 1 : Nat) : Int)) = Qv f (i + 1) := by
 rw [Ya (fun h => by have := jV.1 h; omega)]
 simp [Qv, List.range_succ]
end Go.Wx
namespace Go.Wx.Ms
open Go.RowKit Go.MapKept Go.Wx
open Go.ChangeMaps (setBlock)
def vs (s : List UInt8) : Value := .string ⟨s.toArray⟩
def Ii (p : List UInt8 × Value) : Value × Value := (vs p.1, p.2)
def IMap (w : World) (b : Nat) (kv : List (List UInt8 × Value)) : Prop :=
 ∃ es clock, w.heap[b]? = some (.map es clock) ∧ Stamped es clock ∧ es.toList.map Eu = kv.map Ii
theorem IMap.lt {w : World} {b : Nat} {kv : List (List UInt8 × Value)} (h : IMap w b kv) : b < w.heap.size := let ⟨_, _, h1, _⟩ := h; lt_of_block h1
theorem IMap.up {w w' : World} {b : Nat} {kv : List (List UInt8 × Value)} (h : IMap w b kv) (u : Up w w') : IMap w' b kv := by
 have := h.lt
 obtain ⟨es, clock, h1, h2⟩ := h
 exact ⟨es, clock, (u.block this).trans h1, h2⟩
theorem Ft {es : Array MapEntry} {kv : List (List UInt8 × Value)} (h : es.toList.map Eu = kv.map Ii) : ∀ x ∈ es.toList, ∃ k, x.key = vs k ∧ (k, x.val) ∈ kv := by
 intro x hx
 have h1 : Eu x ∈ kv.map Ii := by rw [← h]; exact List.mem_map.2 ⟨x, hx, rfl⟩
 obtain ⟨p, hp, he⟩ := List.mem_map.1 h1
 have e1 : vs p.1 = x.key := congrArg Prod.fst he
 have e2 : p.2 = x.val := congrArg Prod.snd he
 exact ⟨p.1, e1.symm, by rw [← e2]; exact hp⟩
theorem D9 {es : Array MapEntry} {kv : List (List UInt8 × Value)} (h : es.toList.map Eu = kv.map Ii) {p : List UInt8 × Value} (hp : p ∈ kv) : ∃ x ∈ es.toList, x.key = vs p.1 ∧ x.val = p.2 := by
 have h1 : Ii p ∈ es.toList.map Eu := by rw [h]; exact List.mem_map.2 ⟨p, hp, rfl⟩
 obtain ⟨x, hx, he⟩ := List.mem_map.1 h1
 exact ⟨x, hx, congrArg Prod.fst he, congrArg Prod.snd he⟩
theorem bZ {a b : List UInt8} (h : vs a = vs b) : a = b := by
 have h1 : (⟨a.toArray⟩ : ByteArray) = ⟨b.toArray⟩ := by injection h
 have h2 : a.toArray = b.toArray := congrArg ByteArray.data h1
 simpa using h2
theorem E6 {es : Array MapEntry} {clock : Nat} {kv : List (List UInt8 × Value)} (hs : Stamped es clock) (h : es.toList.map Eu = kv.map Ii) : (kv.map (·.1)).Nodup := by
 have h1 : es.toList.map (·.key) = (kv.map (·.1)).map vs := by
   have := congrArg (List.map Prod.fst) h
   simpa [List.map_map, Function.comp_def, Eu, Ii] using this
 have h2 := hs.2.2
 rw [h1] at h2
 exact List.Pairwise.of_map vs (fun a b hab e => hab (by rw [e])) h2
def Gw (kv : List (List UInt8 × Value)) (k : List UInt8) (v : Value) : List (List UInt8 × Value) := if k ∈ kv.map (·.1) then kv.map (fun p => if p.1 = k then (k, v) else p) else kv ++ [(k, v)]
theorem I5 {es : Array MapEntry} {clock : Nat} {kv : List (List UInt8 × Value)} (hs : Stamped es clock) (h : es.toList.map Eu = kv.map Ii) {j : Nat} {e : MapEntry} {k : List UInt8} {v : Value} (hj : es[j]? = some e) (hk : e.key = vs k) :
   (es.modify j fun e => { e with key := vs k, val := v }).toList.map Eu = (Gw kv k v).map Ii := by
 have hn := E6 hs h
 have hat : ∀ i : Nat, (es.toList.map Eu)[i]? = (kv.map Ii)[i]? := fun i => by rw [h]
 simp only [List.getElem?_map, Array.getElem?_toList] at hat
 have hkj : ∃ p, kv[j]? = some p ∧ p.1 = k := by
   have := hat j
   rw [hj] at this
   cases hp : kv[j]? with
   | none => rw [hp] at this; cases this
   | some p =>
     rw [hp] at this
     have h1 : Eu e = Ii p := by simpa using this
     have h2 : e.key = vs p.1 := congrArg Prod.fst h1
     exact ⟨p, rfl, bZ (h2.symm.trans hk)⟩
 obtain ⟨p, hp, hpk⟩ := hkj
 have hmem : k ∈ kv.map (·.1) := List.mem_map.2 ⟨p, List.mem_of_getElem? hp, hpk⟩
 rw [Gw, if_pos hmem]
 apply List.ext_getElem?
 intro i
 simp only [List.getElem?_map, Array.getElem?_toList, Array.getElem?_modify]
 by_cases hij : j = i
 · subst hij
   rw [if_pos rfl, hj, hp]
   simp [Eu, Ii, hpk]
 rw [if_neg hij, hat i]
 cases hq : kv[i]? with
 | none => rfl
 | some q =>
   have hne : q.1 ≠ k := fun e' => by
     have h1 : (kv.map (·.1))[i]? = some k := by simp [hq, e']
     have h2 : (kv.map (·.1))[j]? = some k := by simp [hp, hpk]
     obtain ⟨hi, h3⟩ := List.getElem?_eq_some_iff.1 h1
     obtain ⟨hj', h4⟩ := List.getElem?_eq_some_iff.1 h2
     exact hij ((List.getElem_inj hn).1 (h4.trans h3.symm))
   simp [hne]
theorem Ha {es : Array MapEntry} {kv : List (List UInt8 × Value)} (h : es.toList.map Eu = kv.map Ii) : ∀ x ∈ es.toList, IsKey .string x.key := fun x hx => by
 obtain ⟨k, hk, _⟩ := Ft h x hx
 rw [hk]; trivial
section
variable {P : Program} {n : Nat} {ds : List Deferred} {l : Env} {w : World} {d : Option Tmp} {ty : TypeId} {ps : String} {af : Array Edge} {g : Option (Nat × Bool)}
theorem SEv.mapUpdate {T K E : TypeId} {m x y : Operand} {b : Nat} {k : List UInt8} {v : Value} {kv : List (List UInt8 × Value)} (hT : P.underlying T = some (.map K E)) (hK : P.underlying K = some .string) (hm : Val l m (.map (some b))) (hx : Val l x (vs k)) (hy : Val l y v) (h : IMap w b kv) :
   SEv P n ds l w ⟨none, .mapUpdate T m x y, ty, ps, af, g⟩ (fun w' => IMap w' b (Gw kv k v) ∧ Sto b w w' ∧ w'.heap.size = w.heap.size) := fun a ha => by
 obtain ⟨es, clock, hb, hs, he⟩ := h
 have hk : IsKey .string (vs k) := trivial
 have fin : ∀ o : Obj, Sto b w { w with heap := w.heap.setIfInBounds b o } := fun o => ⟨rfl, rfl, rfl, by simp, fun i _ hne => (heap_set hb).2 i hne⟩
 rcases findNow_spec hk es.toList 0 (Ha he) with ⟨h1, h2⟩ | ⟨j, e, h1, h2, h3⟩
 · refine ⟨_, Ny (w' := { w with heap := w.heap.setIfInBounds b (.map (es.push { key := vs k, val := v, born := clock }) (clock + 1)) }) ?_, ⟨_, _, (heap_set hb).1, stamped_push hs h2, ?_⟩, fin _, by simp⟩
   · rw [ha.ev hm, ha.ev hx, ha.ev hy]
     simp [Instr.mapUpdate, run_underlying hT, MapKept.run_getObj_map hb, MapKept.run_checkKey hK hk, MapKept.run_findKey hK h1, MapKept.run_setObj_map _ hb, Result.andThen]
   have hni : k ∉ kv.map (·.1) := fun hmem => by
     obtain ⟨p, hp, hpk⟩ := List.mem_map.1 hmem
     obtain ⟨x', hx', hkx, _⟩ := D9 he hp
     exact h2 x' hx' (by rw [hkx, hpk])
   rw [Gw, if_neg hni]
   simp [he, Eu, Ii]
 have hj : es[j]? = some e := by simpa using h2
 have hkey : ∀ e', es[j]? = some e' → ({ e' with key := vs k, val := v } : MapEntry).key = e'.key := fun e' he' => by rw [hj] at he'; cases he'; exact h3.symm
 refine ⟨_, Ny (w' := { w with heap := w.heap.setIfInBounds b (.map (es.modify j fun e => { e with key := vs k, val := v }) clock) }) ?_, ⟨_, _, (heap_set hb).1, stamped_modify hs _ _ (fun _ _ => rfl) (fun e' _ he' => hkey e' he'), I5 hs he hj h3⟩, fin _, by simp⟩
 rw [ha.ev hm, ha.ev hx, ha.ev hy]
 simp [Instr.mapUpdate, run_underlying hT, MapKept.run_getObj_map hb, MapKept.run_checkKey hK hk, MapKept.run_findKey hK h1, hj, h3, run_keyThatStays hk, MapKept.run_setObj_map _ hb, Result.andThen]
theorem REv.makeMap {T : TypeId} : REv P n ds l w ⟨d, .makeMap T none, ty, ps, af, g⟩ (fun v w' => ∃ b, v = .map (some b) ∧ IMap w' b [] ∧ Up w w' ∧ b = w.heap.size ∧ w'.heap.size = b + 1) := fun a ha => by
 refine ⟨_, _, Cm (v := .map (some w.heap.size)) (w' := w.alloc (.map #[] 0)) ?_, _, rfl, ⟨_, _, (heap_alloc w _).1, stamped_empty 0, rfl⟩, Up.alloc w _, rfl, by simp⟩
 simp [Instr.makeMap, Result.andThen]
def IRng (w : World) (b r : Nat) (kv : List (List UInt8 × Value)) (done : List (List UInt8)) : Prop :=
 ∃ es clock since seen c0, w.heap[b]? = some (.map es clock) ∧ Stamped es clock ∧ es.toList.map Eu = kv.map Ii ∧ w.heap[r]? = some (.mapIter (some b) since seen c0) ∧ (∀ x ∈ es.toList, x.born < since) ∧ since ≤ c0 ∧ since ≤ clock ∧
   (∀ x ∈ es.toList, ∀ k, x.key = vs k → (seen.contains x.born = true ↔ k ∈ done)) ∧ done.Nodup ∧ ∀ k ∈ done, k ∈ kv.map (·.1)
theorem IRng.up {w w' : World} {b r : Nat} {kv : List (List UInt8 × Value)} {done : List (List UInt8)} (h : IRng w b r kv done) (u : Up w w') : IRng w' b r kv done := by
 obtain ⟨es, clock, since, seen, c0, h1, h2, h3, h4, h5⟩ := h
 exact ⟨es, clock, since, seen, c0, (u.block (lt_of_block h1)).trans h1, h2, h3, (u.block (lt_of_block h4)).trans h4, h5⟩
theorem IRng.length {w : World} {b r : Nat} {kv : List (List UInt8 × Value)} {done : List (List UInt8)} (h : IRng w b r kv done) : done.length ≤ kv.length := by
 obtain ⟨es, clock, since, seen, c0, h1, h2, h3, h4, h5, h6, h7, h8, h9, h10⟩ := h
 have := h9.length_le_of_subset h10
 simpa using this
theorem IRng.kx {bq : Nat} {X Y : Nat → Prop} {w w' : World} {b r : Nat} {kv : List (List UInt8 × Value)} {done : List (List UInt8)} (h : IRng w b r kv done) (k : Kx bq X Y w w') (hb : ¬ Y b) (hr : ¬ Y r) : IRng w' b r kv done := by
 obtain ⟨es, clock, since, seen, c0, h1, h2, h3, h4, h5⟩ := h
 exact ⟨es, clock, since, seen, c0, k.same b _ h1 (.inr ⟨rfl, hb, .inr rfl⟩), h2, h3, k.same r _ h4 (.inr ⟨rfl, hr, .inr rfl⟩), h5⟩
theorem REv.range {T K E : TypeId} {m : Operand} {b : Nat} {kv : List (List UInt8 × Value)} (hT : P.underlying T = some (.map K E)) (hm : Val l m (.map (some b))) (h : IMap w b kv) :
   REv P n ds l w ⟨d, .range T m, ty, ps, af, g⟩ (fun v w' => ∃ r, v = .pointer (some ⟨r, 0, none⟩) ∧ IRng w' b r kv [] ∧ Up w w' ∧ r = w.heap.size ∧ w'.heap.size = r + 1) := fun a ha => by
 obtain ⟨es, clock, hb, hs, he⟩ := h
 refine ⟨_, _, Cm (v := .pointer (some ⟨w.heap.size, 0, none⟩)) (w' := w.alloc (.mapIter (some b) clock #[] clock)) ?_, _, rfl, ⟨es, clock, clock, #[], clock, ((heap_alloc w _).2 b (lt_of_block hb)).trans hb, hs, he, (heap_alloc w _).1, hs.1, Nat.le_refl _, Nat.le_refl _, ?_, List.nodup_nil, by simp⟩, Up.alloc w _, rfl, by simp⟩
 · rw [ha.ev hm]; exact run_range_map w T K E b es clock hT hb
 intro x _ k _; simp
theorem N4 {b r : Nat} {kv : List (List UInt8 × Value)} {done : List (List UInt8)} (ty : TypeId) (h : IRng w b r kv done) :
   ((Instr.next (.pointer (some ⟨r, 0, none⟩)) false ty).run P w = .ok (.tuple #[.bool false]) w ∧ done.Perm (kv.map (·.1))) ∨
   ∃ k u w', (Instr.next (.pointer (some ⟨r, 0, none⟩)) false ty).run P w = .ok (.tuple #[.bool true, vs k, u]) w' ∧ (k, u) ∈ kv ∧ k ∉ done ∧ IRng w' b r kv (done ++ [k]) ∧ w.grownBy w' (some r) ∧ w'.heap.size = w.heap.size ∧ (Instr.entry (.pointer (some ⟨r, 0, none⟩))).run P w' = .ok (.tuple #[vs k, u]) w' ∧ Sto r w w' ∧ ∃ o : Obj, w.heap[r]? = some o ∧ o.isWalk = true := by
 obtain ⟨es, clock, since, seen, c0, hb, hs, he, hr, hold, hsc, hsk, hd, hdn, hdk⟩ := h
 have hne : b ≠ r := fun e => by rw [e, hr] at hb; cases hb
 have hst := (stamped_iff es clock).1 hs
 rcases run_next_at (P := P) w ty r b since c0 seen es clock hr hb hold hsc with ⟨h0, hrun⟩ | ⟨e, hel, w1, hal, hrun⟩
 · refine .inl ⟨hrun, (List.perm_ext_iff_of_nodup hdn (E6 hs he)).2 fun k => ⟨hdk k, fun hk => ?_⟩⟩
   obtain ⟨p, hp, rfl⟩ := List.mem_map.1 hk
   obtain ⟨x, hx, hxk, _⟩ := D9 he hp
   exact (hd x hx _ hxk).1 (all_seen es seen h0 x hx)
 obtain ⟨hem, hes⟩ := mem_left hel
 obtain ⟨k, hk, hkv⟩ := Ft he e hem
 have hr1 : w1.heap[r]? = some (.mapIter (some b) since seen c0) := by rcases hal with rfl | rfl <;> exact hr
 have hb1 : w1.heap[b]? = some (.map es clock) := by rcases hal with rfl | rfl <;> exact hb
 have hset := heap_set (o' := .mapIter (some b) since (seen.push e.born) clock) hr1
 have hb' : (setBlock w1 r (.mapIter (some b) since (seen.push e.born) clock)).heap[b]? = some (.map es clock) := (hset.2 b hne).trans hb1
 have hnd : k ∉ done := fun hm => by have := (hd e hem k hk).2 hm; rw [hes] at this; cases this
 have hgr : w.grownBy (setBlock w1 r (.mapIter (some b) since (seen.push e.born) clock)) (some r) := by rcases hal with rfl | rfl <;> exact ⟨rfl, rfl, rfl, by simp [setBlock], fun i _ hi => hset.2 i (fun e1 => hi (by rw [e1]))⟩
 refine .inr ⟨k, e.val, _, by rw [hrun, hk], hkv, hnd, ⟨es, clock, since, seen.push e.born, clock, hb', hs, he, hset.1, hold, hsk, hsk, fun x hx k' hk' => ?_, ?_, fun k' hk' => ?_⟩, hgr, ?_, ?_, ⟨hgr.os, hgr.tape, hgr.output, hgr.size, fun i hi hne => hgr.block i hi (fun e => hne (by cases e; rfl))⟩, _, hr, rfl⟩
 · rw [contains_push, Bool.or_eq_true, hd x hx k' hk', List.mem_append, List.mem_singleton]
   refine or_congr Iff.rfl ⟨fun h1 => ?_, fun h1 => ?_⟩
   · have h2 : x.born = e.born := by simpa using h1
     have h3 := born_inj hst.2.1 hx hem h2
     rw [h3, hk] at hk'
     exact (bZ hk').symm
   subst h1
   have := Ea hst.2.2 hx hem (hk'.trans hk.symm)
   rw [this]; simp
 · exact List.nodup_append.2 ⟨hdn, by simp, fun a ha c hc => by simp at hc; subst hc; exact fun e' => hnd (e' ▸ ha)⟩
 · rcases List.mem_append.1 hk' with h1 | h1
   · exact hdk k' h1
   simp at h1; subst h1; exact List.mem_map.2 ⟨_, hkv, rfl⟩
 · rcases hal with rfl | rfl <;> simp [setBlock]
 rw [← hk]; exact run_entry_at _ r b since seen es clock e hset.1 hb' hem hst.2.1
structure NextTo (P : Program) (w w' : World) (b r : Nat) (kv : List (List UInt8 × Value)) (done : List (List UInt8)) (k : List UInt8) (u : Value) : Prop where
 mem : (k, u) ∈ kv
 fresh : k ∉ done
 rng : IRng w' b r kv (done ++ [k])
 grown : w.grownBy w' (some r)
 size : w'.heap.size = w.heap.size
 entry : (Instr.entry (.pointer (some ⟨r, 0, none⟩))).run P w' = .ok (.tuple #[vs k, u]) w'
 sto : Sto r w w'
 walk : ∃ o : Obj, w.heap[r]? = some o ∧ o.isWalk = true
theorem REv.next {it : Operand} {b r : Nat} {kv : List (List UInt8 × Value)} {done : List (List UInt8)} (hx : Val l it (.pointer (some ⟨r, 0, none⟩))) (h : IRng w b r kv done) :
   REv P n ds l w ⟨d, .next it false, ty, ps, af, g⟩ (fun v w' => (v = .tuple #[.bool false] ∧ w' = w ∧ done.Perm (kv.map (·.1))) ∨ ∃ k u, v = .tuple #[.bool true, vs k, u] ∧ NextTo P w w' b r kv done k u) := fun a ha => by
 rcases N4 (P := P) ty h with ⟨h1, h2⟩ | ⟨k, u, w', h1, h2, h3, h4, h5, h6, h7, h8, h9⟩
 · exact ⟨_, _, Cm (by rw [ha.ev hx]; exact h1), .inl ⟨rfl, rfl, h2⟩⟩
 exact ⟨_, _, Cm (by rw [ha.ev hx]; exact h1), .inr ⟨k, u, rfl, h2, h3, h4, h5, h6, h7, h8, h9⟩⟩
theorem REv.entry {it : Operand} {r : Nat} {t : Value} (hx : Val l it (.pointer (some ⟨r, 0, none⟩))) (h : (Instr.entry (.pointer (some ⟨r, 0, none⟩))).run P w = .ok t w) :
 REv P n ds l w ⟨d, .entry it, ty, ps, af, g⟩ (fun v w' => v = t ∧ w' = w) := fun a ha => ⟨_, _, Cm (by rw [ha.ev hx]; exact h), rfl, rfl⟩
theorem PEv.D0 {d : Option Tmp} {ty : TypeId} {ps : String} {af : Array Edge} {g : Option (Nat × Bool)} {T K E : TypeId} {mo x : Operand} {b : Nat} {k : List UInt8} {v : Value} {kv : List (List UInt8 × Value)} {ok : Bool} (hT : P.underlying T = some (.map K E)) (hK : P.underlying K = some .string) (hm : Val l mo (.map (some b))) (hx : Val l x (vs k)) (h : IMap w b kv) (hkv : (k, v) ∈ kv) :
   PEv P n ds l w ⟨d, .lookup T mo x ok, ty, ps, af, g⟩ (if ok then .tuple #[v, .bool true] else v) := fun a w' ha hu => by
 obtain ⟨es, clock, hb, hs, he⟩ := h.up hu
 have hk : IsKey .string (vs k) := trivial
 refine Cm ?_
 rw [ha.ev hm, ha.ev hx]
 rcases findNow_spec hk es.toList 0 (Ha he) with ⟨h1, h2⟩ | ⟨j, e, h1, h2, h3⟩
 · exfalso
   obtain ⟨x', hx', hkx, _⟩ := D9 he hkv
   exact h2 x' hx' hkx
 obtain ⟨x', hx', hkx, hvx⟩ := D9 he hkv
 have hv : e.val = v := by
   have := Ea (List.pairwise_map.1 hs.2.2) (List.mem_of_getElem? h2) hx' (by rw [h3, hkx])
   rw [this]; exact hvx
 cases ok <;> simp [Instr.lookup, run_underlying hT, MapKept.run_getObj_map hb, MapKept.run_checkKey hK hk, MapKept.run_findKey hK h1, Result.andThen, hv]
theorem PEv.Gf {d : Option Tmp} {ty : TypeId} {ps : String} {af : Array Edge} {g : Option (Nat × Bool)} {T K E : TypeId} {mo x : Operand} {b : Nat} {k : List UInt8} {z : Value} {kv : List (List UInt8 × Value)} {ok : Bool} (hT : P.underlying T = some (.map K E)) (hK : P.underlying K = some .string) (hz : ∀ w, (zeroValue E).run P w = .ok z w) (hm : Val l mo (.map (some b))) (hx : Val l x (vs k)) (h : IMap w b kv) (hkv : k ∉ kv.map (·.1)) :
   PEv P n ds l w ⟨d, .lookup T mo x ok, ty, ps, af, g⟩ (if ok then .tuple #[z, .bool false] else z) := fun a w' ha hu => by
 obtain ⟨es, clock, hb, hs, he⟩ := h.up hu
 have hk : IsKey .string (vs k) := trivial
 refine Cm ?_
 rw [ha.ev hm, ha.ev hx]
 rcases findNow_spec hk es.toList 0 (Ha he) with ⟨h1, h2⟩ | ⟨j, e, h1, h2, h3⟩
 · cases ok <;> simp [Instr.lookup, run_underlying hT, MapKept.run_getObj_map hb, MapKept.run_checkKey hK hk, MapKept.run_findKey hK h1, Result.andThen, hz]
 exfalso
 obtain ⟨k', hk', hkv'⟩ := Ft he e (List.mem_of_getElem? h2)
 have : k' = k := bZ (hk'.symm.trans h3)
 exact hkv (List.mem_map.2 ⟨_, hkv', this⟩)
end
end Go.Wx.Ms
namespace Go.Wx
open Go.RowKit
def A4 (b : Nat) (kv : List (Int × Value)) : Asr := ⟨(· = b), fun w => IMap w b kv, fun _ _ h k _ => by
 have := h.lt
 obtain ⟨es, clock, h1, h2⟩ := h
 exact ⟨es, clock, (k b rfl this).trans h1, h2⟩, fun _ h _ e => by rw [e]; exact h.lt⟩
def Fv (b r : Nat) (kv : List (Int × Value)) (done : List Int) : Asr := ⟨fun i => i = b ∨ i = r, fun w => IRng w b r kv done, fun _ _ h k _ => by
 obtain ⟨es, clock, since, seen, c0, h1, h2, h3, h4, h5⟩ := h
 exact ⟨es, clock, since, seen, c0, (k b (.inl rfl) (lt_of_block h1)).trans h1, h2, h3, (k r (.inr rfl) (lt_of_block h4)).trans h4, h5⟩, fun _ h i e => by
 obtain ⟨es, clock, since, seen, c0, h1, h2, h3, h4, h5⟩ := h
 rcases e with rfl | rfl
 · exact lt_of_block h1
 exact lt_of_block h4⟩
theorem Gv {b r : Nat} {kv : List (Int × Value)} {w w' : World} (h : IRng w' b r kv []) (u : Up w w') (hr : r = w.heap.size) : Stp (A4 b kv) (Fv b r kv []) w w' := ⟨u.fr _, h, fun i hi => hi.elim (fun e => .inl e) (fun e => .inr oQ)⟩
theorem H0 {P : Program} {b r : Nat} {kv : List (Int × Value)} {done : List Int} {k : Int} {u : Value} {w w' : World} (h : NextTo P w w' b r kv done k u) : Stp (Fv b r kv done) (Fv b r kv (done ++ [k])) w w' := ⟨h.sto.fr.mono (fun i (e : i = r) => .inr e), h.rng, fun _ h => .inl h⟩
namespace Ms
def A4 (b : Nat) (kv : List (List UInt8 × Value)) : Asr := ⟨(· = b), fun w => Ms.IMap w b kv, fun _ _ h k _ => by
 have := h.lt
 obtain ⟨es, clock, h1, h2⟩ := h
 exact ⟨es, clock, (k b rfl this).trans h1, h2⟩, fun _ h _ e => by rw [e]; exact h.lt⟩
def Fv (b r : Nat) (kv : List (List UInt8 × Value)) (done : List (List UInt8)) : Asr := ⟨fun i => i = b ∨ i = r, fun w => Ms.IRng w b r kv done, fun _ _ h k _ => by
 obtain ⟨es, clock, since, seen, c0, h1, h2, h3, h4, h5⟩ := h
 exact ⟨es, clock, since, seen, c0, (k b (.inl rfl) (lt_of_block h1)).trans h1, h2, h3, (k r (.inr rfl) (lt_of_block h4)).trans h4, h5⟩, fun _ h i e => by
 obtain ⟨es, clock, since, seen, c0, h1, h2, h3, h4, h5⟩ := h
 rcases e with rfl | rfl
 · exact lt_of_block h1
 exact lt_of_block h4⟩
theorem Hv {b : Nat} {kv kv' : List (List UInt8 × Value)} {w w' : World} (h : Ms.IMap w' b kv') (k : Sto b w w') : Stp (A4 b kv) (A4 b kv') w w' := ⟨k.fr, h, fun _ h => .inl h⟩
theorem Gv {b r : Nat} {kv : List (List UInt8 × Value)} {w w' : World} (h : Ms.IRng w' b r kv []) (u : Up w w') (hr : r = w.heap.size) : Stp (A4 b kv) (Fv b r kv []) w w' := ⟨u.fr _, h, fun i hi => hi.elim (fun e => .inl e) (fun e => .inr oQ)⟩
theorem H0 {P : Program} {b r : Nat} {kv : List (List UInt8 × Value)} {done : List (List UInt8)} {k : List UInt8} {u : Value} {w w' : World} (h : Ms.NextTo P w w' b r kv done k u) : Stp (Fv b r kv done) (Fv b r kv (done ++ [k])) w w' := ⟨h.sto.fr.mono (fun i (e : i = r) => .inr e), h.rng, fun _ h => .inl h⟩
end Ms
theorem Ss {As : List Asr} {A A' : Asr} {w w' : World} {j : Nat} (h : (Dt As).holds w) (hj : As[j]? = some A) (s : Stp A A' w w') : Stp (Dt As) (Dt (As.set j A')) w w' := by
 have := (Pj h).Ez j hj s
 rw [← List.append_nil (As.set j A')] at this
 exact Kn this
theorem Yz {α β : Type} (a : α) (b : β) : ∀ (l : List α) (r : List β) (j : Nat), (l.set j a).zip (r.set j b) = (l.zip r).set j (a, b)
 | [], r, j => by simp
 | x :: l, [], j => by cases j <;> simp
 | x :: l, y :: r, 0 => rfl
 | x :: l, y :: r, j + 1 => by
   rw [List.set_cons_succ, List.set_cons_succ, List.zip_cons_cons, List.zip_cons_cons, List.set_cons_succ, Yz a b l r j]
def lists {α : Type} (e k : Nat) (enc : α → Array Value) (vs : List Value) (xss : List (List α)) : List Asr := (vs.zip xss).map fun p => J e k enc p.1 p.2
theorem L5 {α : Type} {e k : Nat} {enc : α → Array Value} {vs : List Value} {xss : List (List α)} {j : Nat} {v : Value} {xs : List α} (hv : vs[j]? = some v) (hx : xss[j]? = some xs) : (lists e k enc vs xss)[j]? = some (J e k enc v xs) := by
 unfold lists
 rw [List.getElem?_map]
 have : (vs.zip xss)[j]? = some (v, xs) := by rw [List.getElem?_zip_eq_some]; exact ⟨hv, hx⟩
 rw [this]; rfl
theorem Pq {α : Type} {e k : Nat} {enc : α → Array Value} {vs : List Value} {xss : List (List α)} {j : Nat} {v : Value} {xs : List α} : (lists e k enc vs xss).set j (J e k enc v xs) = lists e k enc (vs.set j v) (xss.set j xs) := by
 unfold lists
 have : (vs.set j v).zip (xss.set j xs) = (vs.zip xss).set j (v, xs) := Yz v xs vs xss j
 rw [this, List.map_set]
theorem Ka {α : Type} {e k : Nat} {enc : α → Array Value} {vs : List Value} {xss : List (List α)} {w : World} {j : Nat} {v : Value} {xs : List α} (h : (Dt (lists e k enc vs xss)).holds w) (hv : vs[j]? = some v) (hx : xss[j]? = some xs) : OwnS w 0 e k enc v xs := h.1 _ (List.mem_of_getElem? (L5 hv hx))
theorem Vo {α : Type} {e k : Nat} {enc : α → Array Value} {vs : List Value} {xss : List (List α)} {w : World} (h : (Dt (lists e k enc vs xss)).holds w) (hl : vs.length = xss.length) : ∀ v ∈ vs, v.oneCell' = true := fun v hv => by
 obtain ⟨j, hj⟩ := List.mem_iff_getElem?.1 hv
 have hlt := (List.getElem?_eq_some_iff.1 hj).1
 obtain ⟨xs, hx⟩ := Au (xs := xss) (i := j) oQ
 exact (Ka h hj hx).one
theorem jW {α : Type} (e k : Nat) (enc : α → Array Value) (n : Nat) (w : World) : (Dt (lists e k enc (List.replicate n (.slice none 0 0)) (List.replicate n ([] : List α)))).holds w ∧ ∀ i, ¬ (Dt (lists e k enc (List.replicate n (.slice none 0 0)) (List.replicate n ([] : List α)))).foot i := by
 have key : ∀ A ∈ lists e k enc (List.replicate n (.slice none 0 0)) (List.replicate n ([] : List α)), A = J e k enc (.slice none 0 0) [] := fun A hA => by
   unfold lists at hA
   obtain ⟨⟨v, xs⟩, hp, rfl⟩ := List.mem_map.1 hA
   have := List.of_mem_zip hp
   rw [List.eq_of_mem_replicate this.1, List.eq_of_mem_replicate this.2]
 refine ⟨⟨fun A hA => by rw [key A hA]; exact OwnS.nil _ _ _ _ _, List.pairwise_iff_getElem.2 fun i j hi hj _ x hx => by
   rw [key _ (List.getElem_mem hi)] at hx; cases hx⟩, fun i ⟨A, hA, hi⟩ => by rw [key A hA] at hi; cases hi⟩
end Go.Wx
namespace Go.Proofs.YtgjogglfnkgapaaGreatDoor
open Go.Proofs.Tryz
open Go.Wx Go.RowKit
def Ni (k : Int) : Nat := match k with
 | 1 => 130
 | 2 => 132
 | 3 => 133
 | 4 => 134
 | 5 => 136
 | 6 => 138
 | 7 => 139
 | 8 => 140
 | 9 => 142
 | 10 => 143
 | 11 => 145
 | _ => 0
def Ot (k : Int) : Nat := match k with
 | 1 => 131
 | 2 => 131
 | 3 => 131
 | 4 => 135
 | 5 => 137
 | 6 => 131
 | 7 => 131
 | 8 => 141
 | 9 => 131
 | 10 => 144
 | 11 => 131
 | _ => 0
def Xr (k : Int) : Go.Value := .agg #[.func (.func (Ni k)) #[] #[], .func (.func (Ot k)) #[] #[]]
theorem zP (B : Nat) (w : World) : Ret prog 130 #[.pointer (some ⟨B, 0, none⟩)] w fun r w' => r = .pointer (some ⟨B, 0, none⟩) ∧ Up w w' := by
 have hW := Up.refl w
 refine cT 6 func130 rfl (Af (Ay (Ao (Aa (Ab rfl (I (.nc rfl) (I (.fB 0 rfl) (LW.A rfl (Ai (Ak (KW.q ?_)))))))))))
 exact ⟨rfl, hW⟩
theorem zS (B : Nat) (w : World) : Ret prog 132 #[.pointer (some ⟨B, 0, none⟩)] w fun r w' => r = .pointer (some ⟨B, 1, none⟩) ∧ Up w w' := by
 have hW := Up.refl w
 refine cT 6 func132 rfl (Af (Ay (Ao (Aa (Ab rfl (I (.nc rfl) (I (.fB 1 rfl) (LW.A rfl (Ai (Ak (KW.q ?_)))))))))))
 exact ⟨rfl, hW⟩
theorem zT (B : Nat) (w : World) : Ret prog 133 #[.pointer (some ⟨B, 0, none⟩)] w fun r w' => r = .pointer (some ⟨B, 2, none⟩) ∧ Up w w' := by
 have hW := Up.refl w
 refine cT 6 func133 rfl (Af (Ay (Ao (Aa (Ab rfl (I (.nc rfl) (I (.fB 2 rfl) (LW.A rfl (Ai (Ak (KW.q ?_)))))))))))
 exact ⟨rfl, hW⟩
theorem zV (B : Nat) (w : World) : Ret prog 134 #[.pointer (some ⟨B, 0, none⟩)] w fun r w' => r = .pointer (some ⟨B, 3, none⟩) ∧ Up w w' := by
 have hW := Up.refl w
 refine cT 6 func134 rfl (Af (Ay (Ao (Aa (Ab rfl (I (.nc rfl) (I (.fB 3 rfl) (LW.A rfl (Ai (Ak (KW.q ?_)))))))))))
 exact ⟨rfl, hW⟩
theorem zW (B : Nat) (w : World) : Ret prog 136 #[.pointer (some ⟨B, 0, none⟩)] w fun r w' => r = .pointer (some ⟨B, 4, none⟩) ∧ Up w w' := by
 have hW := Up.refl w
 refine cT 6 func136 rfl (Af (Ay (Ao (Aa (Ab rfl (I (.nc rfl) (I (.fB 4 rfl) (LW.A rfl (Ai (Ak (KW.q ?_)))))))))))
 exact ⟨rfl, hW⟩
theorem zX (B : Nat) (w : World) : Ret prog 138 #[.pointer (some ⟨B, 0, none⟩)] w fun r w' => r = .pointer (some ⟨B, 5, none⟩) ∧ Up w w' := by
 have hW := Up.refl w
 refine cT 6 func138 rfl (Af (Ay (Ao (Aa (Ab rfl (I (.nc rfl) (I (.fB 5 rfl) (LW.A rfl (Ai (Ak (KW.q ?_)))))))))))
 exact ⟨rfl, hW⟩
theorem zY (B : Nat) (w : World) : Ret prog 139 #[.pointer (some ⟨B, 0, none⟩)] w fun r w' => r = .pointer (some ⟨B, 6, none⟩) ∧ Up w w' := by
 have hW := Up.refl w
 refine cT 6 func139 rfl (Af (Ay (Ao (Aa (Ab rfl (I (.nc rfl) (I (.fB 6 rfl) (LW.A rfl (Ai (Ak (KW.q ?_)))))))))))
 exact ⟨rfl, hW⟩
theorem zZ (B : Nat) (w : World) : Ret prog 140 #[.pointer (some ⟨B, 0, none⟩)] w fun r w' => r = .pointer (some ⟨B, 7, none⟩) ∧ Up w w' := by
 have hW := Up.refl w
 refine cT 6 func140 rfl (Af (Ay (Ao (Aa (Ab rfl (I (.nc rfl) (I (.fB 7 rfl) (LW.A rfl (Ai (Ak (KW.q ?_)))))))))))
 exact ⟨rfl, hW⟩
theorem AA (B : Nat) (w : World) : Ret prog 142 #[.pointer (some ⟨B, 0, none⟩)] w fun r w' => r = .pointer (some ⟨B, 8, none⟩) ∧ Up w w' := by
 have hW := Up.refl w
 refine cT 6 func142 rfl (Af (Ay (Ao (Aa (Ab rfl (I (.nc rfl) (I (.fB 8 rfl) (LW.A rfl (Ai (Ak (KW.q ?_)))))))))))
 exact ⟨rfl, hW⟩
theorem tM (B : Nat) (w : World) : Ret prog 143 #[.pointer (some ⟨B, 0, none⟩)] w fun r w' => r = .pointer (some ⟨B, 9, none⟩) ∧ Up w w' := by
 have hW := Up.refl w
 refine cT 6 func143 rfl (Af (Ay (Ao (Aa (Ab rfl (I (.nc rfl) (I (.fB 9 rfl) (LW.A rfl (Ai (Ak (KW.q ?_)))))))))))
 exact ⟨rfl, hW⟩
theorem tN (B : Nat) (w : World) : Ret prog 145 #[.pointer (some ⟨B, 0, none⟩)] w fun r w' => r = .pointer (some ⟨B, 10, none⟩) ∧ Up w w' := by
 have hW := Up.refl w
 refine cT 6 func145 rfl (Af (Ay (Ao (Aa (Ab rfl (I (.nc rfl) (I (.fB 10 rfl) (LW.A rfl (Ai (Ak (KW.q ?_)))))))))))
 exact ⟨rfl, hW⟩
theorem Y0 (k : Int) (h1 : 1 ≤ k) (h2 : k ≤ 11) (B : Nat) (w : World) : Ret Tryz.prog (Ni k) #[.pointer (some ⟨B, 0, none⟩)] w fun r w' => r = .pointer (some ⟨B, (k - 1).toNat, none⟩) ∧ Up w w' := by
 obtain rfl | rfl | rfl | rfl | rfl | rfl | rfl | rfl | rfl | rfl | rfl : k = 1 ∨ k = 2 ∨ k = 3 ∨ k = 4 ∨ k = 5 ∨ k = 6 ∨ k = 7 ∨ k = 8 ∨ k = 9 ∨ k = 10 ∨ k = 11 := by omega
 · exact zP B w
 · exact zS B w
 · exact zT B w
 · exact zV B w
 · exact zW B w
 · exact zX B w
 · exact zY B w
 · exact zZ B w
 · exact AA B w
 · exact tM B w
 exact tN B w
theorem gB (k : Int) (h1 : 1 ≤ k) (h2 : k ≤ 11) : ∀ (args : Array Go.Value) (w : World), (callFunc (Ni k) args).run Tryz.prog w = .ok (.enter (Ni k) args) w := by
 obtain rfl | rfl | rfl | rfl | rfl | rfl | rfl | rfl | rfl | rfl | rfl : k = 1 ∨ k = 2 ∨ k = 3 ∨ k = 4 ∨ k = 5 ∨ k = 6 ∨ k = 7 ∨ k = 8 ∨ k = 9 ∨ k = 10 ∨ k = 11 := by omega
 · exact CQ
 · exact CR
 · exact CS
 · exact CT
 · exact CV
 · exact CY
 · exact CZ
 · exact DA
 · exact DC
 · exact DD
 exact DG
theorem Su (x : Fact) (w : World) : Ret prog 131 #[.agg x.cells] w fun r w' => r = .agg #[vi (J8 1 x).1, vi (J8 1 x).2] ∧ Up w w' := by
 have hW := Up.refl w
 refine cT 6 func131 rfl (Af (Al (.bA rfl) rfl ?_))
 rintro _ w1 ⟨B1, rfl, NB1⟩
 have eB1 := NB1.at_
 have zB1 := NB1.size
 replace hW := hW.up NB1.up
 have hB1 := NB1.blk
 refine Al (.Bm zeroValue157) rfl ?_
 rintro _ w2 ⟨B2, rfl, NB2⟩
 have eB2 := NB2.at_
 replace hW := hW.up NB2.up
 replace hB1 := hB1.up NB2.up
 have hB2 := NB2.blk
 refine Ao (Aa (I (.fB 1 rfl) (I (.lb rfl (hB1.Ah rfl)) (I (.J9 (cs := #[vi x.ID, vi 0]) underlying157 zeroValue157 sizeOf3 (.ct rfl (.cons (.const _) .nil)) rfl) (Be (.Bi sizeOf157 rfl (.t rfl) (.t rfl) eQ hB2 rfl) ?_)))))
 intro w3 Nw3
 replace hW := hW.sto Nw3.sto oQ
 replace hB1 := hB1.sto Nw3.sto oQ
 replace hB2 := Nw3.blk
 refine Ai (Ak (E0 rfl rfl isAgg157 sizeOf157 rfl (hB2.agg) ⟨_, rfl, ?_⟩))
 exact ⟨rfl, hW⟩
theorem HL (x : Fact) (w : World) : Ret prog 135 #[.agg x.cells] w fun r w' => r = .agg #[vi (J8 4 x).1, vi (J8 4 x).2] ∧ Up w w' := by
 have hW := Up.refl w
 refine cT 8 func135 rfl (Af (Al (.bA rfl) rfl ?_))
 rintro _ w1 ⟨B1, rfl, NB1⟩
 have eB1 := NB1.at_
 have zB1 := NB1.size
 replace hW := hW.up NB1.up
 have hB1 := NB1.blk
 refine Al (.Bm zeroValue157) rfl ?_
 rintro _ w2 ⟨B2, rfl, NB2⟩
 have eB2 := NB2.at_
 replace hW := hW.up NB2.up
 replace hB1 := hB1.up NB2.up
 have hB2 := NB2.blk
 refine Ao (Aa (I (.fB 7 rfl) (I (.lb rfl (hB1.Ah rfl)) (I (.fB 5 rfl) (I (.lb rfl (hB1.Ah rfl)) (I (.J9 (cs := #[vi x.Wafer, vi x.Time]) underlying157 zeroValue157 sizeOf3 (.ct rfl (.cu rfl)) rfl) (Be (.Bi sizeOf157 rfl (.t rfl) (.t rfl) eQ hB2 rfl) ?_)))))))
 intro w3 Nw3
 replace hW := hW.sto Nw3.sto oQ
 replace hB1 := hB1.sto Nw3.sto oQ
 replace hB2 := Nw3.blk
 refine Ai (Ak (E0 rfl rfl isAgg157 sizeOf157 rfl (hB2.agg) ⟨_, rfl, ?_⟩))
 exact ⟨rfl, hW⟩
theorem HM (x : Fact) (w : World) : Ret prog 137 #[.agg x.cells] w fun r w' => r = .agg #[vi (J8 5 x).1, vi (J8 5 x).2] ∧ Up w w' := by
 have hW := Up.refl w
 refine cT 6 func137 rfl (Af (Al (.bA rfl) rfl ?_))
 rintro _ w1 ⟨B1, rfl, NB1⟩
 have eB1 := NB1.at_
 have zB1 := NB1.size
 replace hW := hW.up NB1.up
 have hB1 := NB1.blk
 refine Al (.Bm zeroValue157) rfl ?_
 rintro _ w2 ⟨B2, rfl, NB2⟩
 have eB2 := NB2.at_
 replace hW := hW.up NB2.up
 replace hB1 := hB1.up NB2.up
 have hB2 := NB2.blk
 refine Ao (Aa (I (.fB 10 rfl) (I (.lb rfl (hB1.Ah rfl)) (I (.J9 (cs := #[vi x.Product, vi 0]) underlying157 zeroValue157 sizeOf3 (.ct rfl (.cons (.const _) .nil)) rfl) (Be (.Bi sizeOf157 rfl (.t rfl) (.t rfl) eQ hB2 rfl) ?_)))))
 intro w3 Nw3
 replace hW := hW.sto Nw3.sto oQ
 replace hB1 := hB1.sto Nw3.sto oQ
 replace hB2 := Nw3.blk
 refine Ai (Ak (E0 rfl rfl isAgg157 sizeOf157 rfl (hB2.agg) ⟨_, rfl, ?_⟩))
 exact ⟨rfl, hW⟩
theorem HN (x : Fact) (w : World) : Ret prog 141 #[.agg x.cells] w fun r w' => r = .agg #[vi (J8 8 x).1, vi (J8 8 x).2] ∧ Up w w' := by
 have hW := Up.refl w
 refine cT 8 func141 rfl (Af (Al (.bA rfl) rfl ?_))
 rintro _ w1 ⟨B1, rfl, NB1⟩
 have eB1 := NB1.at_
 have zB1 := NB1.size
 replace hW := hW.up NB1.up
 have hB1 := NB1.blk
 refine Al (.Bm zeroValue157) rfl ?_
 rintro _ w2 ⟨B2, rfl, NB2⟩
 have eB2 := NB2.at_
 replace hW := hW.up NB2.up
 replace hB1 := hB1.up NB2.up
 have hB2 := NB2.blk
 refine Ao (Aa (I (.fB 8 rfl) (I (.lb rfl (hB1.Ah rfl)) (I (.fB 17 rfl) (I (.lb rfl (hB1.Ah rfl)) (I (.J9 (cs := #[vi x.Other, vi x.Parties]) underlying157 zeroValue157 sizeOf3 (.ct rfl (.cu rfl)) rfl) (Be (.Bi sizeOf157 rfl (.t rfl) (.t rfl) eQ hB2 rfl) ?_)))))))
 intro w3 Nw3
 replace hW := hW.sto Nw3.sto oQ
 replace hB1 := hB1.sto Nw3.sto oQ
 replace hB2 := Nw3.blk
 refine Ai (Ak (E0 rfl rfl isAgg157 sizeOf157 rfl (hB2.agg) ⟨_, rfl, ?_⟩))
 exact ⟨rfl, hW⟩
theorem AB (x : Fact) (w : World) : Ret prog 144 #[.agg x.cells] w fun r w' => r = .agg #[vi (J8 10 x).1, vi (J8 10 x).2] ∧ Up w w' := by
 have hW := Up.refl w
 refine cT 8 func144 rfl (Af (Al (.bA rfl) rfl ?_))
 rintro _ w1 ⟨B1, rfl, NB1⟩
 have eB1 := NB1.at_
 have zB1 := NB1.size
 replace hW := hW.up NB1.up
 have hB1 := NB1.blk
 refine Al (.Bm zeroValue157) rfl ?_
 rintro _ w2 ⟨B2, rfl, NB2⟩
 have eB2 := NB2.at_
 replace hW := hW.up NB2.up
 replace hB1 := hB1.up NB2.up
 have hB2 := NB2.blk
 refine Ao (Aa (I (.fB 14 rfl) (I (.lb rfl (hB1.Ah rfl)) (I (.fB 5 rfl) (I (.lb rfl (hB1.Ah rfl)) (I (.J9 (cs := #[vi x.Recipe, vi x.Time]) underlying157 zeroValue157 sizeOf3 (.ct rfl (.cu rfl)) rfl) (Be (.Bi sizeOf157 rfl (.t rfl) (.t rfl) eQ hB2 rfl) ?_)))))))
 intro w3 Nw3
 replace hW := hW.sto Nw3.sto oQ
 replace hB1 := hB1.sto Nw3.sto oQ
 replace hB2 := Nw3.blk
 refine Ai (Ak (E0 rfl rfl isAgg157 sizeOf157 rfl (hB2.agg) ⟨_, rfl, ?_⟩))
 exact ⟨rfl, hW⟩
theorem tO (k : Int) (h1 : 1 ≤ k) (h2 : k ≤ 11) (x : Fact) (w : World) : Ret Tryz.prog (Ot k) #[.agg x.cells] w fun r w' => r = .agg #[vi (J8 k x).1, vi (J8 k x).2] ∧ Up w w' := by
 obtain rfl | rfl | rfl | rfl | rfl | rfl | rfl | rfl | rfl | rfl | rfl : k = 1 ∨ k = 2 ∨ k = 3 ∨ k = 4 ∨ k = 5 ∨ k = 6 ∨ k = 7 ∨ k = 8 ∨ k = 9 ∨ k = 10 ∨ k = 11 := by omega
 · exact Su x w
 · exact Su x w
 · exact Su x w
 · exact HL x w
 · exact HM x w
 · exact Su x w
 · exact Su x w
 · exact HN x w
 · exact Su x w
 · exact AB x w
 exact Su x w
theorem AD (k : Int) (h1 : 1 ≤ k) (h2 : k ≤ 11) : ∀ (args : Array Go.Value) (w : World), (callFunc (Ot k) args).run Tryz.prog w = .ok (.enter (Ot k) args) w := by
 obtain rfl | rfl | rfl | rfl | rfl | rfl | rfl | rfl | rfl | rfl | rfl : k = 1 ∨ k = 2 ∨ k = 3 ∨ k = 4 ∨ k = 5 ∨ k = 6 ∨ k = 7 ∨ k = 8 ∨ k = 9 ∨ k = 10 ∨ k = 11 := by omega
 · exact Rs
 · exact Rs
 · exact Rs
 · exact CU
 · exact CX
 · exact Rs
 · exact Rs
 · exact DB
 · exact Rs
 · exact DF
 exact Rs
theorem jX (w : World) : Ret prog 58 #[] w fun r w' => ∃ b, r = .map (some b) ∧ IMap w' b (Qv Xr 11) ∧ w.heap.size ≤ b ∧ Up w w' := by
 have hW := Up.refl w
 refine cT 14 func58 rfl (Af (Ay (Ao ?_)))
 skip
 refine Aa (LW.r REv.makeMap rfl rfl rfl rfl ?_)
 rintro _ w1 ⟨B1, rfl, MB1, uB1, eB1, zB1⟩
 replace hW := hW.up uB1
 have hM1 := MB1
 refine I (.build (cs := #[.func (.func 130) #[] #[], .func (.func 131) #[] #[]]) underlying137 zeroValue137 Dd (.cons (.func _) (.cons (.func _) .nil)) rfl) ?_
 replace hM1 : IMap _ B1 (Qv Xr 0) := hM1
 refine Be (.insert (k := ((0 + 1 : Nat) : Int)) (v := Xr ((0 + 1 : Nat) : Int)) underlying131 underlying3 (.t rfl) (.const _) (.t rfl) hM1) ?_
 rintro w2 ⟨Mw2, Kw2, zw2⟩
 rw [Fi] at Mw2
 replace hM1 := Mw2
 replace hW := hW.sto Kw2 oQ
 refine I (.build (cs := #[.func (.func 132) #[] #[], .func (.func 131) #[] #[]]) underlying137 zeroValue137 Dd (.cons (.func _) (.cons (.func _) .nil)) rfl) (Be (.insert (k := ((1 + 1 : Nat) : Int)) (v := Xr ((1 + 1 : Nat) : Int)) underlying131 underlying3 (.t rfl) (.const _) (.t rfl) hM1) ?_)
 rintro w3 ⟨Mw3, Kw3, zw3⟩
 rw [Fi] at Mw3
 replace hM1 := Mw3
 replace hW := hW.sto Kw3 oQ
 refine I (.build (cs := #[.func (.func 133) #[] #[], .func (.func 131) #[] #[]]) underlying137 zeroValue137 Dd (.cons (.func _) (.cons (.func _) .nil)) rfl) (Be (.insert (k := ((2 + 1 : Nat) : Int)) (v := Xr ((2 + 1 : Nat) : Int)) underlying131 underlying3 (.t rfl) (.const _) (.t rfl) hM1) ?_)
 rintro w4 ⟨Mw4, Kw4, zw4⟩
 rw [Fi] at Mw4
 replace hM1 := Mw4
 replace hW := hW.sto Kw4 oQ
 refine I (.build (cs := #[.func (.func 134) #[] #[], .func (.func 135) #[] #[]]) underlying137 zeroValue137 Dd (.cons (.func _) (.cons (.func _) .nil)) rfl) (Be (.insert (k := ((3 + 1 : Nat) : Int)) (v := Xr ((3 + 1 : Nat) : Int)) underlying131 underlying3 (.t rfl) (.const _) (.t rfl) hM1) ?_)
 rintro w5 ⟨Mw5, Kw5, zw5⟩
 rw [Fi] at Mw5
 replace hM1 := Mw5
 replace hW := hW.sto Kw5 oQ
 refine I (.build (cs := #[.func (.func 136) #[] #[], .func (.func 137) #[] #[]]) underlying137 zeroValue137 Dd (.cons (.func _) (.cons (.func _) .nil)) rfl) (Be (.insert (k := ((4 + 1 : Nat) : Int)) (v := Xr ((4 + 1 : Nat) : Int)) underlying131 underlying3 (.t rfl) (.const _) (.t rfl) hM1) ?_)
 rintro w6 ⟨Mw6, Kw6, zw6⟩
 rw [Fi] at Mw6
 replace hM1 := Mw6
 replace hW := hW.sto Kw6 oQ
 refine I (.build (cs := #[.func (.func 138) #[] #[], .func (.func 131) #[] #[]]) underlying137 zeroValue137 Dd (.cons (.func _) (.cons (.func _) .nil)) rfl) (Be (.insert (k := ((5 + 1 : Nat) : Int)) (v := Xr ((5 + 1 : Nat) : Int)) underlying131 underlying3 (.t rfl) (.const _) (.t rfl) hM1) ?_)
 rintro w7 ⟨Mw7, Kw7, zw7⟩
 rw [Fi] at Mw7
 replace hM1 := Mw7
 replace hW := hW.sto Kw7 oQ
 refine I (.build (cs := #[.func (.func 139) #[] #[], .func (.func 131) #[] #[]]) underlying137 zeroValue137 Dd (.cons (.func _) (.cons (.func _) .nil)) rfl) (Be (.insert (k := ((6 + 1 : Nat) : Int)) (v := Xr ((6 + 1 : Nat) : Int)) underlying131 underlying3 (.t rfl) (.const _) (.t rfl) hM1) ?_)
 rintro w8 ⟨Mw8, Kw8, zw8⟩
 rw [Fi] at Mw8
 replace hM1 := Mw8
 replace hW := hW.sto Kw8 oQ
 refine I (.build (cs := #[.func (.func 140) #[] #[], .func (.func 141) #[] #[]]) underlying137 zeroValue137 Dd (.cons (.func _) (.cons (.func _) .nil)) rfl) (Be (.insert (k := ((7 + 1 : Nat) : Int)) (v := Xr ((7 + 1 : Nat) : Int)) underlying131 underlying3 (.t rfl) (.const _) (.t rfl) hM1) ?_)
 rintro w9 ⟨Mw9, Kw9, zw9⟩
 rw [Fi] at Mw9
 replace hM1 := Mw9
 replace hW := hW.sto Kw9 oQ
 refine I (.build (cs := #[.func (.func 142) #[] #[], .func (.func 131) #[] #[]]) underlying137 zeroValue137 Dd (.cons (.func _) (.cons (.func _) .nil)) rfl) (Be (.insert (k := ((8 + 1 : Nat) : Int)) (v := Xr ((8 + 1 : Nat) : Int)) underlying131 underlying3 (.t rfl) (.const _) (.t rfl) hM1) ?_)
 rintro w10 ⟨Mw10, Kw10, zw10⟩
 rw [Fi] at Mw10
 replace hM1 := Mw10
 replace hW := hW.sto Kw10 oQ
 refine I (.build (cs := #[.func (.func 143) #[] #[], .func (.func 144) #[] #[]]) underlying137 zeroValue137 Dd (.cons (.func _) (.cons (.func _) .nil)) rfl) (Be (.insert (k := ((9 + 1 : Nat) : Int)) (v := Xr ((9 + 1 : Nat) : Int)) underlying131 underlying3 (.t rfl) (.const _) (.t rfl) hM1) ?_)
 rintro w11 ⟨Mw11, Kw11, zw11⟩
 rw [Fi] at Mw11
 replace hM1 := Mw11
 replace hW := hW.sto Kw11 oQ
 refine I (.build (cs := #[.func (.func 145) #[] #[], .func (.func 131) #[] #[]]) underlying137 zeroValue137 Dd (.cons (.func _) (.cons (.func _) .nil)) rfl) (Be (.insert (k := ((10 + 1 : Nat) : Int)) (v := Xr ((10 + 1 : Nat) : Int)) underlying131 underlying3 (.t rfl) (.const _) (.t rfl) hM1) ?_)
 rintro w12 ⟨Mw12, Kw12, zw12⟩
 rw [Fi] at Mw12
 replace hM1 := Mw12
 replace hW := hW.sto Kw12 oQ
 refine Ab rfl (LW.A rfl (Ai (Ak (KW.q ?_))))
 exact ⟨_, rfl, hM1, by omega, hW⟩
end Go.Proofs.YtgjogglfnkgapaaGreatDoor
namespace Go.Wx
abbrev Dg := List (List UInt8 × Fact)
def Eb (m : Dg) (k : List UInt8) : Option Fact := (m.find? fun p => p.1 == k).map (·.2)
def Hg (m : Dg) (k : List UInt8) (f : Fact) : Dg := if k ∈ m.map (·.1) then m.map (fun p => if p.1 = k then (k, f) else p) else m ++ [(k, f)]
def Ev (m : Dg) : List (List UInt8 × Go.Value) := m.map fun p => (p.1, .agg p.2.cells)
theorem Iy (m : Dg) : (Ev m).map (·.1) = m.map (·.1) := by simp [Ev]
theorem Ou (m : Dg) (k : List UInt8) (f : Fact) : Ms.Gw (Ev m) k (.agg f.cells) = Ev (Hg m k f) := by
 unfold Ms.Gw Hg
 rw [Iy]
 split
 · simp only [Ev, List.map_map]
   apply List.map_congr_left
   intro p _
   simp only [Function.comp]
   split <;> rfl
 simp [Ev]
theorem L6 {m : Dg} {k : List UInt8} {f : Fact} (h : Eb m k = some f) : (k, .agg f.cells) ∈ Ev m := by
 unfold Eb at h
 cases hf : m.find? (fun p => p.1 == k) with
 | none => rw [hf] at h; cases h
 | some p =>
   rw [hf] at h
   have h1 := List.mem_of_find?_eq_some hf
   have h2 : (p.1 == k) = true := List.find?_some (p := fun p : List UInt8 × Fact => p.1 == k) hf
   have h3 := eq_of_beq h2
   simp at h
   refine List.mem_map.2 ⟨p, h1, ?_⟩
   rw [h3, h]
theorem Kb {m : Dg} {k : List UInt8} (h : Eb m k = none) : k ∉ (Ev m).map (·.1) := by
 rw [Iy]
 intro hm
 obtain ⟨p, hp, e⟩ := List.mem_map.1 hm
 unfold Eb at h
 rw [Option.map_eq_none_iff, List.find?_eq_none] at h
 exact h p hp (by simp [e])
def Ck (day : Int) (m : Dg) (f : Fact) : Dg := if A7 f = [] ∨ day < f.Day then m else match Eb m (A7 f) with
 | none => Hg m (A7 f) f
 | some old => if Dp f old = true then Hg m (A7 f) f else m
def Az (l : List Fact) (day : Int) : Dg := l.foldl (Ck day) []
theorem Kc {l : List Fact} {day : Int} {k : Nat} {x : Fact} (h : l[k]? = some x) : Az (l.take (k + 1)) day = Ck day (Az (l.take k) day) x := by
 rw [Dw h, Az, List.foldl_append]; rfl
theorem Hh {day : Int} {m : Dg} {x : Fact} (h : A7 x = [] ∨ day < x.Day) : Ck day m x = m := by rw [Ck, if_pos h]
theorem Sv {day : Int} {m : Dg} {x : Fact} (h : ¬ (A7 x = [] ∨ day < x.Day)) (hg : Eb m (A7 x) = none) : Ck day m x = Hg m (A7 x) x := by rw [Ck, if_neg h, hg]
theorem Sw {day : Int} {m : Dg} {x old : Fact} (h : ¬ (A7 x = [] ∨ day < x.Day)) (hg : Eb m (A7 x) = some old) (hp : Dp x old = true) : Ck day m x = Hg m (A7 x) x := by rw [Ck, if_neg h, hg]; simp [hp]
theorem Sx {day : Int} {m : Dg} {x old : Fact} (h : ¬ (A7 x = [] ∨ day < x.Day)) (hg : Eb m (A7 x) = some old) (hp : Dp x old = false) : Ck day m x = m := by rw [Ck, if_neg h, hg]; simp [hp]
def MOk (m : Dg) : Prop := ∀ p ∈ m, p.1 = A7 p.2 ∧ Bk p.2 = true
theorem Gp {f : Fact} (h : A7 f ≠ []) : Bk f = true := by
 cases hv : Bk f with
 | true => rfl
 | false => rw [A7, if_neg (by rw [hv]; exact Bool.false_ne_true)] at h; exact absurd rfl h
theorem MOk.set {m : Dg} {f : Fact} (h : MOk m) (hf : Bk f = true) : MOk (Hg m (A7 f) f) := by
 intro p hp
 unfold Hg at hp
 split at hp
 · obtain ⟨q, hq, e⟩ := List.mem_map.1 hp
   split at e
   · rw [← e]; exact ⟨rfl, hf⟩
   rw [← e]; exact h q hq
 rcases List.mem_append.1 hp with hp | hp
 · exact h p hp
 simp at hp; rw [hp]; exact ⟨rfl, hf⟩
theorem Y1 (m : Dg) (k : List UInt8) (f : Fact) : (Hg m k f).length ≤ m.length + 1 := by
 unfold Hg
 split <;> simp
theorem MOk.step {m : Dg} (h : MOk m) (day : Int) (f : Fact) : MOk (Ck day m f) ∧ (Ck day m f).length ≤ m.length + 1 := by
 unfold Ck
 split
 · exact ⟨h, by omega⟩
 rename_i hk
 have hv : Bk f = true := Gp fun e => hk (.inl e)
 split
 · exact ⟨h.set hv, Y1 _ _ _⟩
 split
 · exact ⟨h.set hv, Y1 _ _ _⟩
 exact ⟨h, by omega⟩
theorem K1 (day : Int) : ∀ (l : List Fact), MOk (Az l day) ∧ (Az l day).length ≤ l.length := by
 have : ∀ (l : List Fact) (m : Dg), MOk m → MOk (l.foldl (Ck day) m) ∧ (l.foldl (Ck day) m).length ≤ m.length + l.length := by
   intro l
   induction l with
   | nil => intro m h; exact ⟨h, by simp⟩
   | cons x l ih =>
     intro m h
     have h1 := h.step day x
     have h2 := ih _ h1.1
     exact ⟨h2.1, by have := h2.2; simp only [List.foldl_cons, List.length_cons]; omega⟩
 intro l
 have h := this l [] (fun p hp => by simp at hp)
 exact ⟨h.1, by have := h.2; simp only [List.length_nil, Nat.zero_add] at this; exact this⟩
def Ed (dn : List Int) (ds : List Fact) (j : Nat) : List Fact :=
 if ((j + 1 : Nat) : Int) ∈ dn then Jb (J8 ((j + 1 : Nat) : Int)) (ds.filter fun f => !f.Gone && decide (f.Kind = ((j + 1 : Nat) : Int))) else ds.filter fun f => !f.Gone && decide (f.Kind = ((j + 1 : Nat) : Int))
def Y2 (dn : List Int) (ds : List Fact) : List (List Fact) := (List.range 11).map (Ed dn ds)
theorem Io (dn : List Int) (ds : List Fact) : (Y2 dn ds).length = 11 := by simp [Y2]
theorem Gk (dn : List Int) (ds : List Fact) {j : Nat} (hj : j < 11) : (Y2 dn ds)[j]? = some (Ed dn ds j) := by simp [Y2, hj]
theorem oG {ds : List Fact} {x : Fact} (h : x.Gone = true) : Y2 [] (ds ++ [x]) = Y2 [] ds := by
 unfold Y2
 apply List.map_congr_left
 intro j _
 simp [Ed, h]
theorem tP {ds : List Fact} {x : Fact} {j : Nat} (h : x.Gone = false) (hj : j < 11) (hk : x.Kind = ((j + 1 : Nat) : Int)) : Y2 [] (ds ++ [x]) = (Y2 [] ds).set j (Ed [] ds j ++ [x]) := by
 apply List.ext_getElem?
 intro i
 rw [List.getElem?_set]
 by_cases e : j = i
 · subst e
   rw [if_pos rfl, if_pos (by rw [Io]; exact hj), Gk _ _ hj]
   simp [Ed, h, hk]
 rw [if_neg e]
 by_cases hi : i < 11
 · rw [Gk _ _ hi, Gk _ _ hi]
   have : decide (x.Kind = ((i + 1 : Nat) : Int)) = false := decide_eq_false oQ
   simp only [Ed, List.not_mem_nil, if_false, List.filter_append]
   rw [List.filter_cons, if_neg (by rw [this, Bool.and_false]; exact Bool.false_ne_true)]
   simp
 rw [List.getElem?_eq_none (by rw [Io]; omega), List.getElem?_eq_none (by rw [Io]; omega)]
theorem oH {dn : List Int} {ds : List Fact} {j : Nat} (hj : j < 11) (hn : ((j + 1 : Nat) : Int) ∉ dn) : (Y2 dn ds).set j (Jb (J8 ((j + 1 : Nat) : Int)) (Ed dn ds j)) = Y2 (dn ++ [((j + 1 : Nat) : Int)]) ds := by
 apply List.ext_getElem?
 intro i
 rw [List.getElem?_set]
 by_cases e : j = i
 · subst e
   rw [if_pos rfl, if_pos (by rw [Io]; exact hj), Gk _ _ hj]
   unfold Ed
   rw [if_neg hn, if_pos (List.mem_append_right _ (List.mem_singleton.2 rfl))]
 rw [if_neg e]
 by_cases hi : i < 11
 · rw [Gk _ _ hi, Gk _ _ hi]
   have : ((i + 1 : Nat) : Int) ≠ ((j + 1 : Nat) : Int) := by omega
   simp only [Ed, List.mem_append, List.mem_singleton, this, or_false]
 rw [List.getElem?_eq_none (by rw [Io]; omega), List.getElem?_eq_none (by rw [Io]; omega)]
theorem Rc (dn : List Int) (ds : List Fact) (j : Nat) : (Ed dn ds j).length ≤ ds.length := by
 unfold Ed
 split
 · rw [(Em _).same.length]; exact List.length_filter_le _ _
 exact List.length_filter_le _ _
theorem tR : Y2 [] [] = List.replicate 11 ([] : List Fact) := by
 rfl
theorem tS (vs : List Go.Value) (j : Nat) (v : Go.Value) : vs.toArray.setIfInBounds j v = (vs.set j v).toArray := by simp
theorem Pr {x : Fact} (h : A7 x = []) : ((⟨(A7 x).toArray⟩ : ByteArray).toList == (⟨#[]⟩ : ByteArray).toList) = true := by rw [Iw, Iw, h]; rfl
theorem Sy {x : Fact} (h : A7 x ≠ []) : ((⟨(A7 x).toArray⟩ : ByteArray).toList == (⟨#[]⟩ : ByteArray).toList) = false := by
 rw [Iw, Iw]
 simpa using h
theorem Ip {vs : List Go.Value} (h : vs.length = 11) : ∃ v0 v1 v2 v3 v4 v5 v6 v7 v8 v9 v10, vs = [v0, v1, v2, v3, v4, v5, v6, v7, v8, v9, v10] := by
 match vs, h with
 | [v0, v1, v2, v3, v4, v5, v6, v7, v8, v9, v10], _ => exact ⟨v0, v1, v2, v3, v4, v5, v6, v7, v8, v9, v10, rfl⟩
def Vp (ds : List Fact) : Base := ⟨Ed [1] ds 0, Ed [2] ds 1, Ed [3] ds 2, Ed [4] ds 3, Ed [5] ds 4, Ed [6] ds 5, Ed [7] ds 6, Ed [8] ds 7, Ed [9] ds 8, Ed [10] ds 9, Ed [11] ds 10⟩
theorem Y3 {dn : List Int} {ds : List Fact} {j : Nat} (h : ((j + 1 : Nat) : Int) ∈ dn) : Ed dn ds j = Ed [((j + 1 : Nat) : Int)] ds j := by
 unfold Ed
 rw [if_pos h, if_pos (List.mem_singleton.2 rfl)]
theorem S3 {ds : List Fact} {x : Fact} (h : (ds.map A7).Nodup) (hf : A7 x ∉ ds.map A7) : ((ds ++ [x]).map A7).Nodup := by
 rw [List.map_append, List.nodup_append]
 exact ⟨h, by simp, fun a ha c hc => by simp at hc; subst hc; exact fun e => hf (e ▸ ha)⟩
theorem S4 {ds : List Fact} {M : Dg} (h : ∀ f ∈ ds, (A7 f, f) ∈ M) (hn : (ds.map A7).Nodup) : ds.length ≤ M.length := by
 have := hn.length_le_of_subset (l₂ := M.map (·.1)) (fun k hk => by
   obtain ⟨f, hf, rfl⟩ := List.mem_map.1 hk
   exact List.mem_map.2 ⟨_, h f hf, rfl⟩)
 simpa using this
theorem S5 {ds : List Fact} {M : Dg} {x : Fact} (h : ∀ f ∈ ds, (A7 f, f) ∈ M) (hn : (ds.map A7).Nodup) (hx : (A7 x, x) ∈ M) (hf : A7 x ∉ ds.map A7) : ds.length + 1 ≤ M.length := by
 have := S4 (ds := ds ++ [x]) (M := M) (fun f hf => by rcases List.mem_append.1 hf with hf | hf; exact h f hf; simp at hf; rw [hf]; exact hx) (S3 hn hf)
 simpa using this
theorem jY {dn : List Int} (h : dn.Nodup ∧ ∀ k ∈ dn, 1 ≤ k ∧ k ≤ 11) : dn.length ≤ 11 := by
 have := h.1.length_le_of_subset (l₂ := [1, 2, 3, 4, 5, 6, 7, 8, 9, 10, 11]) (fun k hk => by
   have := h.2 k hk
   simp; omega)
 simpa using this
theorem jZ {dn : List Int} {k : Int} (h : dn.Nodup ∧ ∀ k ∈ dn, 1 ≤ k ∧ k ≤ 11) (hk : 1 ≤ k ∧ k ≤ 11) (hf : k ∉ dn) : dn.length + 1 ≤ 11 := by
 have := jY (dn := dn ++ [k]) ⟨List.nodup_append.2 ⟨h.1, by simp, fun a ha c hc => by simp at hc; subst hc; exact fun e => hf (e ▸ ha)⟩, fun q hq => by rcases List.mem_append.1 hq with hq | hq; exact h.2 q hq; simp at hq; rw [hq]; exact hk⟩
 simpa using this
theorem oI {α : Type} {vs : List α} {j : Nat} {v : α} (h : vs[j]? = some v) : vs.set j v = vs := by
 apply List.ext_getElem?
 intro i
 rw [List.getElem?_set]
 by_cases e : j = i
 · subst e
   rw [if_pos rfl, if_pos (List.getElem?_eq_some_iff.1 h).1, h]
 rw [if_neg e]
theorem F1 {e : Nat} {dn : List Int} {ds : List Fact} {vs : List Go.Value} {w : World} (h : (Dt (lists e 19 Fact.cells vs (Y2 dn ds))).holds w) {j : Nat} {v : Go.Value} (hv : vs[j]? = some v) (hj : j < 11) (hin : ((j + 1 : Nat) : Int) ∈ dn) : Sl w v 19 Fact.cells (Ed [((j + 1 : Nat) : Int)] ds j) := by
 have := (Ka h hv (Gk _ _ hj)).sl (fun _ => rfl)
 rwa [Y3 hin] at this
theorem oJ {e : Nat} {dn : List Int} {ds : List Fact} {vs : List Go.Value} {w : World} (h : (Dt (lists e 19 Fact.cells vs (Y2 dn ds))).holds w) {j : Nat} {v : Go.Value} (hv : vs[j]? = some v) (hj : j < 11) (hin : ((j + 1 : Nat) : Int) ∈ dn) : OwnS w 0 e 19 Fact.cells v (Ed [((j + 1 : Nat) : Int)] ds j) := by
 have := Ka h hv (Gk _ _ hj)
 rwa [Y3 hin] at this
def gC (base : Nat) (bc : Array Go.Value) : Prop := ∀ (j : Nat) (v : Go.Value), bc[j]? = some v → ∀ i, v.ownBlock = some i → base ≤ i
theorem cA {α : Type} {e k base : Nat} {enc : α → Array Go.Value} {vs : List Go.Value} {xss : List (List α)} (hl : vs.length = xss.length) (h : ∀ i, (Dt (lists e k enc vs xss)).foot i → base ≤ i) : gC base vs.toArray := fun j v hv i hi => by
 have hv2 : vs[j]? = some v := by simpa using hv
 have hlt := (List.getElem?_eq_some_iff.1 hv2).1
 obtain ⟨xs, hx⟩ := Au (xs := xss) (i := j) oQ
 exact h i ⟨_, List.mem_of_getElem? (L5 hv2 hx), hi⟩
theorem tT {vs : List Go.Value} (h : ∀ v ∈ vs, v.oneCell' = true) : vs.toArray.all (·.oneCell') = true := by
 rw [Array.all_eq_true_iff_forall_mem]
 intro v hv
 exact h v (by simpa using hv)
theorem S6 {α : Type} {key : α → K2} {l s : List α} (h : l.Perm s) (hd : ∀ x ∈ l, ∀ y ∈ l, key x = key y → x = y) : Jb key l = Jb key s := by
 have hs : sameF key l s := fun k => by
   have hp := h.filter (fun x => key x == k)
   cases e : l.filter (fun x => key x == k) with
   | nil => rw [e] at hp; exact hp.symm.eq_nil
   | cons x r =>
     have all : ∀ y ∈ l.filter (fun x => key x == k), y = x := fun y hy => by
       have hx : x ∈ l.filter (fun x => key x == k) := by rw [e]; exact List.mem_cons_self
       rw [List.mem_filter] at hx hy
       exact hd _ hy.1 _ hx.1 ((eq_of_beq hy.2).trans (eq_of_beq hx.2).symm)
     have h1 : l.filter (fun x => key x == k) = List.replicate (l.filter (fun x => key x == k)).length x := List.eq_replicate_iff.2 ⟨rfl, all⟩
     have h2 : s.filter (fun x => key x == k) = List.replicate (l.filter (fun x => key x == k)).length x := List.eq_replicate_iff.2 ⟨hp.length_eq.symm, fun y hy => all y (hp.symm.subset hy)⟩
     rw [h2, ← h1, e]
 have : StS key l (Jb key s) := ⟨(Em s).ord, hs.trans (Em s).same⟩
 exact this.eq.symm
theorem Gq {k : Int} {f g : Fact} (hf : Bk f = true) (hg : Bk g = true) (hkf : f.Kind = k) (hkg : g.Kind = k) (h : J8 k f = J8 k g) : A7 f = A7 g := by
 have hk := Es hf
 rw [hkf] at hk
 unfold A7 Oj
 rw [if_pos hf, if_pos hg, hkf, hkg]
 have hc : k = 1 ∨ k = 2 ∨ k = 3 ∨ k = 4 ∨ k = 5 ∨ k = 6 ∨ k = 7 ∨ k = 8 ∨ k = 9 ∨ k = 10 ∨ k = 11 := by omega
 rcases hc with rfl | rfl | rfl | rfl | rfl | rfl | rfl | rfl | rfl | rfl | rfl
 · replace h : (f.ID, (0 : Int)) = (g.ID, (0 : Int)) := h
   show Ct [1, f.ID] = Ct [1, g.ID]
   rw [(Prod.mk.inj h).1]
 · replace h : (f.ID, (0 : Int)) = (g.ID, (0 : Int)) := h
   show Ct [2, f.ID] = Ct [2, g.ID]
   rw [(Prod.mk.inj h).1]
 · replace h : (f.ID, (0 : Int)) = (g.ID, (0 : Int)) := h
   show Ct [3, f.ID] = Ct [3, g.ID]
   rw [(Prod.mk.inj h).1]
 · replace h : (f.Wafer, f.Time) = (g.Wafer, g.Time) := h
   show Ct [4, f.Wafer, f.Time] = Ct [4, g.Wafer, g.Time]
   rw [(Prod.mk.inj h).1, (Prod.mk.inj h).2]
 · replace h : (f.Product, (0 : Int)) = (g.Product, (0 : Int)) := h
   show Ct [5, f.Product] = Ct [5, g.Product]
   rw [(Prod.mk.inj h).1]
 · replace h : (f.ID, (0 : Int)) = (g.ID, (0 : Int)) := h
   show Ct [6, f.ID] = Ct [6, g.ID]
   rw [(Prod.mk.inj h).1]
 · replace h : (f.ID, (0 : Int)) = (g.ID, (0 : Int)) := h
   show Ct [7, f.ID] = Ct [7, g.ID]
   rw [(Prod.mk.inj h).1]
 · replace h : (f.Other, f.Parties) = (g.Other, g.Parties) := h
   show Ct [8, f.Other, f.Parties] = Ct [8, g.Other, g.Parties]
   rw [(Prod.mk.inj h).1, (Prod.mk.inj h).2]
 · replace h : (f.ID, (0 : Int)) = (g.ID, (0 : Int)) := h
   show Ct [9, f.ID] = Ct [9, g.ID]
   rw [(Prod.mk.inj h).1]
 · replace h : (f.Recipe, f.Time) = (g.Recipe, g.Time) := h
   show Ct [10, f.Recipe, f.Time] = Ct [10, g.Recipe, g.Time]
   rw [(Prod.mk.inj h).1, (Prod.mk.inj h).2]
 replace h : (f.ID, (0 : Int)) = (g.ID, (0 : Int)) := h
 show Ct [11, f.ID] = Ct [11, g.ID]
 rw [(Prod.mk.inj h).1]
theorem Vq (m : Dg) (k : List UInt8) (f : Fact) : (Hg m k f).map (·.1) = if k ∈ m.map (·.1) then m.map (·.1) else m.map (·.1) ++ [k] := by
 unfold Hg
 split
 · rw [List.map_map]
   apply List.map_congr_left
   intro p _
   simp only [Function.comp]
   split
   · rename_i e; exact e.symm
   rfl
 simp
theorem S7 {m : Dg} (h : (m.map (·.1)).Nodup) (k : List UInt8) (f : Fact) : ((Hg m k f).map (·.1)).Nodup := by
 rw [Vq]
 split
 · exact h
 rename_i hn
 rw [List.nodup_append]
 exact ⟨h, by simp, fun a ha c hc => by cases List.mem_singleton.1 hc; exact fun e => hn (e ▸ ha)⟩
theorem S8 {m : Dg} (h : (m.map (·.1)).Nodup) (day : Int) (f : Fact) : ((Ck day m f).map (·.1)).Nodup := by
 unfold Ck
 split
 · exact h
 split
 · exact S7 h _ _
 split
 · exact S7 h _ _
 exact h
theorem Hi (l : List Fact) (day : Int) : ((Az l day).map (·.1)).Nodup := by
 have : ∀ (l : List Fact) (m : Dg), (m.map (·.1)).Nodup → ((l.foldl (Ck day) m).map (·.1)).Nodup := by
   intro l
   induction l with
   | nil => exact fun m h => h
   | cons x l ih => exact fun m h => ih _ (S8 h day x)
 exact this l [] List.nodup_nil
theorem Vr {m : Dg} (h : (m.map (·.1)).Nodup) {k : List UInt8} {f g : Fact} (hf : (k, f) ∈ m) (hg : (k, g) ∈ m) : f = g := by
 induction m with
 | nil => cases hf
 | cons p m ih =>
   rw [List.map_cons, List.nodup_cons] at h
   rcases List.mem_cons.1 hf with e | hf' <;> rcases List.mem_cons.1 hg with e' | hg'
   · rw [← e'] at e; cases e; rfl
   · exact absurd (List.mem_map.2 ⟨_, hg', by rw [← e]⟩) h.1
   · exact absurd (List.mem_map.2 ⟨_, hf', by rw [← e']⟩) h.1
   exact ih h.2 hf' hg'
def Fs (m : Dg) : List Fact := m.map (·.2)
theorem Hj {m : Dg} (h : MOk m) {f : Fact} : f ∈ Fs m ↔ (A7 f, f) ∈ m := by
 constructor
 · intro hf
   obtain ⟨⟨k, g⟩, hp, e⟩ := List.mem_map.1 hf
   have e : g = f := e
   subst e
   have := (h _ hp).1
   have this : k = A7 g := this
   rw [← this]; exact hp
 exact fun hf => List.mem_map.2 ⟨_, hf, rfl⟩
theorem Qg {m : Dg} (h : MOk m) : (Fs m).map A7 = m.map (·.1) := by
 unfold Fs
 rw [List.map_map]
 apply List.map_congr_left
 intro p hp
 exact (h p hp).1.symm
theorem Iq {α β : Type} {f : α → β} : ∀ {l : List α}, (l.map f).Nodup → l.Nodup
 | [], _ => List.nodup_nil
 | x :: l, h => by
   rw [List.map_cons, List.nodup_cons] at h
   exact List.nodup_cons.2 ⟨fun hm => h.1 (List.mem_map.2 ⟨x, hm, rfl⟩), Iq h.2⟩
theorem H2 {α : Type} {l s : List α} (hl : l.Nodup) (hs : s.Nodup) (h : ∀ x, x ∈ l ↔ x ∈ s) : l.Perm s := (List.perm_ext_iff_of_nodup hl hs).2 h
theorem Vs {ds : List Fact} {m : Dg} (hm : MOk m) (hn : (m.map (·.1)).Nodup) (h : ∀ f ∈ ds, (A7 f, f) ∈ m) (hp : (ds.map A7).Perm (m.map (·.1))) : ds.Perm (Fs m) := by
 refine H2 (Iq (f := A7) (hp.nodup_iff.2 hn)) (Iq (f := A7) (by rw [Qg hm]; exact hn)) fun x => ?_
 rw [Hj hm]
 refine ⟨h x, fun hx => ?_⟩
 obtain ⟨y, hy, e⟩ := List.mem_map.1 (hp.symm.subset (List.mem_map.2 ⟨_, hx, rfl⟩))
 have e : A7 y = A7 x := e
 have := h y hy
 rw [e] at this
 rw [Vr hn hx this]; exact hy
theorem cB {m : Dg} (hm : MOk m) (hn : (m.map (·.1)).Nodup) {f g : Fact} (hf : f ∈ Fs m) (hg : g ∈ Fs m) (e : A7 f = A7 g) : f = g := by
 rw [Hj hm] at hf hg
 rw [e] at hf
 exact Vr hn hf hg
theorem Dh {m : Dg} (hm : MOk m) (hn : (m.map (·.1)).Nodup) {ds : List Fact} (h : ds.Perm (Fs m)) (dn : List Int) (j : Nat) (hj : ((j + 1 : Nat) : Int) ∈ dn) : Ed dn ds j = Ed dn (Fs m) j := by
 unfold Ed
 rw [if_pos hj, if_pos hj]
 refine S6 (h.filter _) fun x hx y hy e => ?_
 rw [List.mem_filter] at hx hy
 have hxm := h.subset hx.1
 have hym := h.subset hy.1
 have vx := (hm _ ((Hj hm).1 hxm)).2
 have vy := (hm _ ((Hj hm).1 hym)).2
 simp only [Bool.and_eq_true, decide_eq_true_eq] at hx hy
 exact cB hm hn hxm hym (Gq vx vy hx.2.2 hy.2.2 e)
def D5 (l : List Fact) (day : Int) : Base := Vp (Fs (Az l day))
theorem oK {ds : List Fact} {l : List Fact} {day : Int} (h : ∀ f ∈ ds, (A7 f, f) ∈ Az l day) (hp : (ds.map A7).Perm ((Az l day).map (·.1))) : Vp ds = D5 l day := by
 have hm := (K1 day l).1
 have hn := Hi l day
 have h1 := Vs hm hn h hp
 unfold D5 Vp
 rw [Dh hm hn h1 [1] 0 cQ, Dh hm hn h1 [2] 1 cQ, Dh hm hn h1 [3] 2 cQ, Dh hm hn h1 [4] 3 cQ, Dh hm hn h1 [5] 4 cQ, Dh hm hn h1 [6] 5 cQ, Dh hm hn h1 [7] 6 cQ, Dh hm hn h1 [8] 7 cQ, Dh hm hn h1 [9] 8 cQ, Dh hm hn h1 [10] 9 cQ, Dh hm hn h1 [11] 10 (by decide)]
end Go.Wx
namespace Go.Proofs.YtgjogglfnkgapaaGreatDoor
open Go.Proofs.Tryz
open Go.Wx Go.RowKit
set_option maxHeartbeats 8000000 in
theorem gD (ad : Option Addr) (cp : Nat) (l : List Fact) (day : Int) (w : World) (hE0 : Els w ad 19 Fact.cells l) (hl : l.length ≤ 100000) : Ret prog 17 #[.slice ad l.length cp, vi day] w fun r w' => ∃ bc ds, r = .agg bc ∧ BaseC w' bc (Vp ds) ∧ (∀ f ∈ ds, (A7 f, f) ∈ Az l day) ∧ (ds.map A7).Perm ((Az l day).map (·.1)) ∧ gC w.heap.size bc ∧ (∃ v, bc[0]? = some v ∧ OwnS w' 0 28 19 Fact.cells v (Vp ds).Processes) ∧ Up w w' := by
 obtain ⟨w0, rfl, hS⟩ := W0 w
 refine cT 91 func17 rfl (Af (Al (.Bm zeroValue50) rfl ?_))
 rintro _ w1 ⟨B4, rfl, NB4⟩
 replace hS := hS.Bn NB4
 refine Ao (Aa (LW.r Ms.REv.makeMap rfl rfl rfl rfl ?_))
 rintro _ w2 ⟨B18, rfl, M18, u18, e18, z18⟩
 replace hS := hS.add u18 (A' := Ms.A4 B18 (Ev [])) M18 (fun i (e : i = B18) => by omega)
 refine LW.A rfl (Ao (Af (Ab rfl (I (.Di underlying25 (.t rfl)) (I (.move (.const _)) (Ai (An (A8 (σ := Nat) (fun s w => (s ≤ l.length) ∧ (Wx.Sep no w0 w [Cc B4 #[.slice none 0 0, .slice none 0 0, .slice none 0 0, .slice none 0 0, .slice none 0 0, .slice none 0 0, .slice none 0 0, .slice none 0 0, .slice none 0 0, .slice none 0 0, .slice none 0 0] 50, Ms.A4 B18 (Ev (Az (l.take s) day))])) (fun s => [(21, .eq (vi (s : Int)))]) ([(1, .eq _), (4, .eq _), (5, .eq _), (19, .eq _), (20, .eq _)]) (fun s => l.length - s) 0 ?_ tQ ?_))))))))
 ·exact ⟨Nat.zero_le _, hS⟩
 rintro k w3 ⟨hkk, hS⟩
 refine Af (I (.l2 rfl rfl) (Ao (CW.b rfl (fun h22 => ?_) (fun h22 => ?_))))
 ·replace h22 := dQ h22
  refine Aj (Ac (Am (An (Am ?_))))
  have hE := Els.up hE0 hS.Cr
  have hkl : k < l.length := by simp at h22; omega
  refine Aa ?_
  obtain ⟨x, hx⟩ := Au (xs := l) (i := k) oQ
  obtain ⟨Bx, ox, ax, hcx⟩ := hE _ x hx
  refine I (.Av underlying25 sizeOf28 (.t rfl) (.t rfl) oQ ax) (I (.lc rfl (hcx)) (Al (.Bm zeroValue28) rfl ?_))
  rintro _ w4 ⟨B7, rfl, MB7⟩
  refine Be (.Bi sizeOf28 rfl (.t rfl) (.t rfl) eQ MB7.blk rfl) ?_
  intro w5 LB7
  have NB7 := MB7.set LB7
  replace hcx := hcx.up NB7.up
  replace hS := hS.Bn NB7
  refine Ao (Aa (I (.lc rfl (hS.b2.agg)) (A3 (eC (.o rfl) (mI)) rfl (Ol x _) ?_)))
  rintro _ w6 ⟨rfl, uw6⟩
  replace hS := hS.up uw6
  refine LW.A rfl (Ao (Am ?_))
  cases hq6 : decide (A7 x = []) with
  | true =>
   replace hq6 := of_decide_eq_true hq6
   refine Aa (Ab rfl (I (.tr (Hb (.t rfl) (.const _)) (Pr hq6)) (Ab rfl (Da (Da (Da (Da (I (.tr (PEv.E1 (b := false) (.t rfl) (fun hp => absurd (show true = false from hp) cQ)) (rfl)) (Ai (CW.v rfl (Bl (Ad (Aq (Ac (Aa (I (.ic rfl oQ) (Ab rfl (LW.nil (Ar ?_)))))))))))))))))))
   exact ⟨k + 1, ⟨by omega, by rw [Kc hx]; (rw [Hh (.inl hq6)]; exact hS.take 2)⟩, tQ, by omega⟩
  | false =>
   replace hq6 := of_decide_eq_false hq6
   refine Aa (Ab rfl (I (.fa (Hb (.t rfl) (.const _)) (Sy hq6)) (Ab rfl (Cb (I (.fB 3 rfl) (Cb (I (.lb rfl (hS.b2.Ah rfl)) (Cb (Ab rfl (Cb (I (.gtr (.t rfl) (.t rfl)) (I (.po rfl (fun hp => (by exact .tmp rfl))) (Ai (CW.b rfl (fun h34 => ?_) (fun h34 => ?_)))))))))))))))
   ·replace h34 := dQ h34
    skip
    refine Bl (Ad (Aq (Ac (Aa (I (.ic rfl oQ) (Ab rfl (LW.nil (Ar ?_))))))))
    exact ⟨k + 1, ⟨by omega, by rw [Kc hx]; (rw [Hh (.inr h34)]; exact hS.take 2)⟩, tQ, by omega⟩
   replace h34 := dQ h34
   have hno : ¬ (A7 x = [] ∨ day < x.Day) := fun h => h.elim hq6 (fun h2 => by simp at h34; omega)
   refine Aj (Ac (Am ?_))
   cases hq7 : Eb (Az (l.take k) day) (A7 x) with
   | none =>
    refine Aa (Ab rfl (Ab rfl (I (Ms.PEv.Gf underlying103 underlying9 zeroValue28 (.t rfl) (.t rfl) (hS.get 1 rfl) (Kb hq7)) (Ab rfl (I (.xt rfl rfl) (I (.xt rfl rfl) (Al (.Bm zeroValue28) rfl ?_)))))))
    rintro _ w7 ⟨B9, rfl, MB9⟩
    refine Be (.Bi sizeOf28 rfl (.t rfl) (.t rfl) eQ MB9.blk rfl) ?_
    intro w8 LB9
    have NB9 := MB9.set LB9
    replace hS := hS.Bn NB9
    refine LW.A rfl (Ao (Aa (Ab rfl (I (.tr (PEv.n1 rfl) (rfl)) (Ab rfl (Da (Da (Da (I (.tr (PEv.E1 (b := false) (.t rfl) (fun hp => absurd (show true = false from hp) cQ)) (rfl)) (Ai (CW.v rfl (Aa (Ab rfl (Ab rfl (I (.lc rfl (hS.b2.agg)) (Be (Ms.SEv.mapUpdate underlying103 underlying9 (.t rfl) (.t rfl) (.t rfl) (hS.get 1 rfl)) ?_))))))))))))))))
    rintro w9 ⟨Mu, Ku, zu⟩
    rw [Ou] at Mu
    replace hS := hS.Ez 1 rfl (Ms.Hv Mu Ku)
    refine LW.nil (Ae (Ac (Aa (I (.ic rfl oQ) (Ab rfl (LW.nil (Ar ?_)))))))
    exact ⟨k + 1, ⟨by omega, by rw [Kc hx]; (rw [Sv hno hq7]; exact hS.take 2)⟩, tQ, by omega⟩
   | some old =>
    refine Aa (Ab rfl (Ab rfl (I (Ms.PEv.D0 underlying103 underlying9 (.t rfl) (.t rfl) (hS.get 1 rfl) (L6 hq7)) (Ab rfl (I (.xt rfl rfl) (I (.xt rfl rfl) (Al (.Bm zeroValue28) rfl ?_)))))))
    rintro _ w10 ⟨B9, rfl, MB9⟩
    refine Be (.Bi sizeOf28 rfl (.t rfl) (.t rfl) eQ MB9.blk rfl) ?_
    intro w11 LB9
    have NB9 := MB9.set LB9
    replace hS := hS.Bn NB9
    refine LW.A rfl (Ao (Aa (Ab rfl (I (.fa (PEv.n1 rfl) (rfl)) (Ab rfl (Cb (I (.lc rfl (hS.b2.agg)) (Cb (I (.lc rfl (hS.b3.agg)) (Cb (A3 (eC (.u rfl rfl) (CB)) rfl (On x old _) ?_)))))))))))
    rintro _ w12 ⟨rfl, uw12⟩
    replace hS := hS.up uw12
    refine I (.po rfl (fun hp => (by exact .tmp rfl))) (Ai (CW.b rfl (fun h47 => ?_) (fun h47 => ?_)))
    ·replace h47 : Dp x old = true := by simpa using h47
     refine Aa (Ab rfl (Ab rfl (I (.lc rfl (hS.b2.agg)) (Be (Ms.SEv.mapUpdate underlying103 underlying9 (.t rfl) (.t rfl) (.t rfl) (hS.get 1 rfl)) ?_))))
     rintro w13 ⟨Mu, Ku, zu⟩
     rw [Ou] at Mu
     replace hS := hS.Ez 1 rfl (Ms.Hv Mu Ku)
     refine LW.nil (Ae (Ac (Aa (I (.ic rfl oQ) (Ab rfl (LW.nil (Ar ?_)))))))
     exact ⟨k + 1, ⟨by omega, by rw [Kc hx]; (rw [Sw hno hq7 h47]; exact hS.take 2)⟩, tQ, by omega⟩
    replace h47 : Dp x old = false := by simpa using h47
    refine Aj (Ae (Ac (Aa (I (.ic rfl oQ) (Ab rfl (LW.nil (Ar ?_)))))))
    exact ⟨k + 1, ⟨by omega, by rw [Kc hx]; (rw [Sx hno hq7 h47]; exact hS.take 2)⟩, tQ, by omega⟩
 refine Bl (Ad (Ad (Aq (Ac (Am ?_)))))
 have hkl : k = l.length := by simp at h22; omega
 subst hkl
 rw [List.take_length] at hS
 obtain ⟨M, hM⟩ : ∃ M, M = Az l day := ⟨_, rfl⟩
 rw [← hM] at hS
 have hMo := (K1 day l).1
 have hMl := (K1 day l).2
 rw [← hM] at hMo hMl
 refine Aa (Al (.Bm zeroValue50) rfl ?_)
 rintro _ w14 ⟨B11, rfl, NB11⟩
 replace hS := hS.Bn NB11
 refine Ao (Aa (A3 (eC .nil (JC)) rfl (jX _) ?_))
 rintro _ w15 ⟨bk, rfl, hKm, hKb, uw15⟩
 replace hS := hS.add uw15 (A' := A4 bk (Qv Xr 11)) (hKm) (fun i (e : i = bk) => by omega)
 refine LW.A rfl (Ao (Am ?_))
 have hLn := jW 28 19 Fact.cells 11 w15
 replace hS := hS.add (Up.refl _) (A' := Dt (lists 28 19 Fact.cells (List.replicate 11 (.slice none 0 0)) (List.replicate 11 ([] : List Fact)))) hLn.1 (fun i h => absurd h (hLn.2 i))
 rw [← tR] at hS
 refine Aa (Ab rfl (Al (Ms.REv.range underlying103 (.t rfl) (hS.get 1 rfl)) rfl ?_))
 rintro _ w16 ⟨r54, rfl, hR_, uR, eR, zR⟩
 replace hS := hS.Ez 1 rfl (Ms.Gv hR_ uR eR)
 refine Ai (An (A8 (σ := List Fact × List Go.Value) (fun s w => (∀ f ∈ s.1, (A7 f, f) ∈ M) ∧ ((s.1.map A7).Nodup) ∧ (s.2.length = 11) ∧ (Wx.Sep no w0 w [Cc B4 #[.slice none 0 0, .slice none 0 0, .slice none 0 0, .slice none 0 0, .slice none 0 0, .slice none 0 0, .slice none 0 0, .slice none 0 0, .slice none 0 0, .slice none 0 0, .slice none 0 0] 50, Ms.Fv B18 r54 (Ev M) (s.1.map A7), Cc B11 s.2.toArray 50, A4 bk (Qv Xr 11), Dt (lists 28 19 Fact.cells s.2 (Y2 [] s.1))])) (fun s => []) ([(4, .eq _), (11, .eq _), (12, .eq _), (54, .eq _)]) (fun s => M.length - s.1.length) ([], List.replicate 11 (.slice none 0 0)) ?_ tQ ?_))
 ·exact ⟨fun f h => by simp at h, List.nodup_nil, rfl, hS⟩
 rintro ⟨ds, vs⟩ w17 ⟨hds, hdn, hvl, hS⟩
 dsimp only at hds hdn hvl hS
 refine Af (Al (Ms.REv.next (.t rfl) (hS.get 1 rfl)) rfl ?_)
 rintro _ w18 (⟨rfl, rfl, hPm⟩ | ⟨k0, u0, rfl, hNx⟩)
 ·skip
  refine I (.xt rfl rfl) (Ao (CW.f rfl (Bl (Ad (Ad (Aq (Ac (Am (Am ?_)))))))))
  have hPd := hPm
  refine Aa (Ab rfl (Al (.range underlying131 (.t rfl) (hS.get 3 rfl)) rfl ?_))
  rintro _ w19 ⟨r77, rfl, hR_, uR, eR, zR⟩
  replace hS := hS.Ez 3 rfl (Gv hR_ uR eR)
  refine Ai (An (A8 (σ := List Int) (fun s w => (s.Nodup ∧ ∀ k ∈ s, 1 ≤ k ∧ k ≤ 11) ∧ (Wx.Sep no w0 w [Cc B4 #[.slice none 0 0, .slice none 0 0, .slice none 0 0, .slice none 0 0, .slice none 0 0, .slice none 0 0, .slice none 0 0, .slice none 0 0, .slice none 0 0, .slice none 0 0, .slice none 0 0] 50, Ms.Fv B18 r54 (Ev M) (ds.map A7), Cc B11 vs.toArray 50, Fv bk r77 (Qv Xr 11) s, Dt (lists 28 19 Fact.cells vs (Y2 s ds))])) (fun s => []) ([(4, .eq _), (11, .eq _), (77, .eq _)]) (fun s => 11 - s.length) [] ?_ tQ ?_))
  ·exact ⟨⟨List.nodup_nil, fun k h => by simp at h⟩, hS⟩
  rintro dn w20 ⟨hdk, hS⟩
  refine Af (Al (.next (.t rfl) (hS.get 3 rfl)) rfl ?_)
  rintro _ w21 (⟨rfl, rfl, hPm⟩ | ⟨kk, u0, rfl, hNx⟩)
  ·skip
   refine I (.xt rfl rfl) (Ao (CW.f rfl (Bl (Ad (Ad (Aq (Ac (Am ?_))))))))
   obtain ⟨v0, v1, v2, v3, v4, v5, v6, v7, v8, v9, v10, rfl⟩ := Ip hvl
   have hv1 := Vo (hS.get 4 rfl) (by rw [hvl, Io])
   refine Aa (I (.lc rfl (hS.b2.agg)) (Be (.Bi sizeOf50 rfl (.t rfl) (.t rfl) (tT hv1) hS.b0 rfl) ?_))
   intro w22 Nw22
   have zw22 := Nw22.size
   replace hS := hS.Cp 0 rfl Nw22
   refine Ai (Ak (E0 rfl rfl isAgg50 sizeOf50 rfl (hS.b0.agg) ⟨_, rfl, ?_⟩))
   have hOw := hS.get 4 rfl
   have hin : ∀ k : Nat, k < 11 → ((k + 1 : Nat) : Int) ∈ dn := fun k hk => hPm.symm.subset (List.mem_map.2 ⟨(((k + 1 : Nat) : Int), Xr ((k + 1 : Nat) : Int)), Ll.2 ⟨by omega, by omega, rfl⟩, rfl⟩)
   exact ⟨_, ds, rfl, ⟨v0, v1, v2, v3, v4, v5, v6, v7, v8, v9, v10, rfl, F1 hOw (j := 0) rfl cQ (hin 0 cQ), F1 hOw (j := 1) rfl cQ (hin 1 cQ), F1 hOw (j := 2) rfl cQ (hin 2 cQ), F1 hOw (j := 3) rfl cQ (hin 3 cQ), F1 hOw (j := 4) rfl cQ (hin 4 cQ), F1 hOw (j := 5) rfl cQ (hin 5 cQ), F1 hOw (j := 6) rfl cQ (hin 6 cQ), F1 hOw (j := 7) rfl cQ (hin 7 cQ), F1 hOw (j := 8) rfl cQ (hin 8 cQ), F1 hOw (j := 9) rfl cQ (hin 9 cQ), F1 hOw (j := 10) rfl cQ (hin 10 cQ)⟩, fun f hf => hM ▸ hds f hf, by rw [Iy] at hPd; exact hM ▸ hPd, cA (by rw [Io]; rfl) (fun i hi => (hS.foot 4 rfl i hi).resolve_left fun h => h), ⟨v0, rfl, oJ hOw (j := 0) rfl cQ (hin 0 cQ)⟩, hS.Cr⟩
  skip
  have zw21 := hNx.size
  replace hS := hS.Ez 3 rfl (H0 hNx)
  obtain ⟨hk1, hk2, hu0⟩ := Ll.1 hNx.mem
  subst hu0
  have hfr2 := hNx.fresh
  have hkk1 : 1 ≤ kk ∧ kk ≤ 11 := ⟨hk1, by omega⟩
  replace hk2 : kk ≤ 11 := by omega
  obtain ⟨j, hj⟩ : ∃ j, j = (kk - 1).toNat := ⟨_, rfl⟩
  have hj11 : j < 11 := by omega
  have hkk2 : kk = ((j + 1 : Nat) : Int) := by omega
  have hdl := S4 hds hdn
  obtain ⟨v, hvj⟩ := Au (xs := vs) (i := j) oQ
  have hdk2 : (dn ++ [kk]).Nodup ∧ ∀ k ∈ dn ++ [kk], 1 ≤ k ∧ k ≤ 11 := ⟨List.nodup_append.2 ⟨hdk.1, by simp, fun a ha c hc => by simp at hc; subst hc; exact fun e => hfr2 (e ▸ ha)⟩, fun k hk => (List.mem_append.1 hk).elim (hdk.2 k) (fun h => by cases List.mem_singleton.1 h; exact hkk1)⟩
  refine I (.xt rfl rfl) (Ao (CW.v rfl (Aj (Ac (An (Am ?_))))))
  skip
  refine Aa (Al (.entry (.t rfl) hNx.entry) rfl ?_)
  rintro _ _ ⟨rfl, rfl⟩
  refine I (.val (v' := .agg #[.func (.func (Ni kk)) #[] #[], .func (.func (Ot kk)) #[] #[]]) (PEv.xt rfl rfl) rfl) (Al (.Bm zeroValue137) rfl ?_)
  rintro _ w23 ⟨B17, rfl, MB17⟩
  refine Be (.Bi sizeOf137 rfl (.t rfl) (.t rfl) eQ MB17.blk rfl) ?_
  intro w24 LB17
  have NB17 := MB17.set LB17
  replace hS := hS.Bn NB17
  refine Ai (Ht 7 [.eq (.pointer (some ⟨B17, 0, none⟩)), .eq (.func (.func (Ni kk)) #[] #[]), .eq (.pointer (some ⟨B11, j, none⟩)), .eq (.pointer (some ⟨B11, j, none⟩)), .eq (v), .eq (.pointer (some ⟨B17, 1, none⟩)), .eq (.func (.func (Ot kk)) #[] #[])] [86, 88] kQ rfl kQ kQ kQ kQ kQ kQ kQ uQ ?_ ?_)
  ·intro W hU0
   have hU := (Up.drew w24).trans hU0
   refine aC ⟨rfl, TU.p (.fB 0 rfl) rfl⟩ (aC ⟨rfl, TU.p (.lb rfl ((hS.b5.up hU).Ah rfl)) rfl⟩ (aC ⟨rfl, TU.c (Fy (.t rfl) (.cu rfl) (gB kk hk1 hk2)) (Y0 kk hk1 hk2 B11 _) (by rintro _ W1 ⟨rfl, u⟩; exact ⟨u, by rw [hj]; rfl⟩)⟩ (aC ⟨rfl, TU.p (.nc rfl) rfl⟩ (aC ⟨rfl, TU.p (.lb rfl ((hS.b2.up hU).cell (by simpa using hvj))) rfl⟩ (aC ⟨rfl, TU.p (.fB 1 rfl) rfl⟩ (aC ⟨rfl, TU.p (.lb rfl ((hS.b5.up hU).Ah rfl)) rfl⟩ ?_))))))
   exact allL.nil
  intro w25 g hU0 hg
  have hU := (Up.drew w24).trans hU0
  replace hS := hS.up hU
  have e86 : g 86 = v := hg 4 _ 86 cQ rfl rfl
  have e88 : g 88 = .func (.func (Ot kk)) #[] #[] := hg 6 _ 88 cQ rfl rfl
  change LW _ _ _ _ _ _ _ _ ((86, .eq (g 86)) :: (88, .eq (g 88)) :: _) _
  rw [e86, e88]
  refine A3 (eC (.u rfl rfl) (CC)) rfl (Sr (Ot kk) (J8 kk) (AD kk hk1 hk2) (fun W x => tO kk hk1 hk2 x W) v (Ed dn ds j) _ (Ka (hS.get 4 rfl) hvj (Gk _ _ hj11)) (by have := Rc dn ds j; omega)) ?_
  rintro _ w26 ⟨rfl, hSo⟩
  replace hS := hS.Ez 4 rfl (Ss (hS.get 4 rfl) (L5 hvj (Gk _ _ hj11)) hSo)
  rw [Pq, oI hvj, hkk2] at hS
  refine LW.nil (Ae (Ar ?_))
  exact ⟨dn ++ [kk], ⟨hdk2, by rw [hkk2, ← oH hj11 (by rw [← hkk2]; exact hfr2)]; exact hS.take 5⟩, tQ, by have := jZ hdk hkk1 hfr2; simp; omega⟩
 skip
 have zw18 := hNx.size
 replace hS := hS.Ez 1 rfl (Ms.H0 hNx)
 obtain ⟨⟨kx, x⟩, hmem0, he0⟩ := List.mem_map.1 hNx.mem
 cases he0
 obtain ⟨hkx, hxv⟩ := hMo _ hmem0
 dsimp only at hkx hxv
 subst hkx
 have hmem := hmem0
 have hfr := hNx.fresh
 have hk12 : 1 ≤ x.Kind ∧ x.Kind ≤ 11 := Es hxv
 have hds2 : ∀ f ∈ ds ++ [x], (A7 f, f) ∈ M := fun f hf => (List.mem_append.1 hf).elim (hds f) (fun h => by cases List.mem_singleton.1 h; exact hmem)
 have hdn2 : ((ds ++ [x]).map A7).Nodup := S3 hdn hfr
 obtain ⟨j, hj⟩ : ∃ j, j = (x.Kind - 1).toNat := ⟨_, rfl⟩
 have hj11 : j < 11 := by omega
 have hkj : x.Kind = ((j + 1 : Nat) : Int) := by omega
 have hdl := S4 hds hdn
 have hdl2 := S5 hds hdn hmem hfr
 refine I (.xt rfl rfl) (Ao (CW.v rfl (Aj (Ac (An (Af (Al (Ms.REv.entry (.t rfl) hNx.entry) rfl ?_)))))))
 rintro _ _ ⟨rfl, rfl⟩
 refine I (.xt rfl rfl) (Al (.Bm zeroValue28) rfl ?_)
 rintro _ w27 ⟨B14, rfl, MB14⟩
 refine Be (.Bi sizeOf28 rfl (.t rfl) (.t rfl) eQ MB14.blk rfl) ?_
 intro w28 LB14
 have NB14 := MB14.set LB14
 replace hS := hS.Bn NB14
 refine Ao ?_
 cases hq16 : x.Gone with
 | true =>
  have hgn := hq16
  refine Aa (I (.fB 4 rfl) (I (.lb rfl (hS.b5.Ah rfl)) (I (.fa (PEv.n1 rfl) (by rw [hq16]; rfl)) (Ai (CW.f rfl (Aj (Ae (Ar ?_))))))))
  exact ⟨(ds ++ [x], vs), ⟨hds2, hdn2, hvl, by (rw [oG hgn, List.map_append]; exact hS.take 5)⟩, tQ, by show M.length - (ds ++ [x]).length < M.length - ds.length; have := S5 hds hdn hmem hfr; simp; omega⟩
 | false =>
  have hgn := hq16
  refine Aa (I (.fB 4 rfl) (I (.lb rfl (hS.b5.Ah rfl)) (I (.tr (PEv.n1 rfl) (by rw [hq16]; rfl)) (Ai (CW.v rfl (Af (Ab rfl (I (.fB 0 rfl) (I (.lb rfl (hS.b5.Ah rfl)) (I (.val (v' := .agg #[.func (.func (Ni x.Kind)) #[] #[], .func (.func (Ot x.Kind)) #[] #[]]) (PEv.D0 (ok := false) underlying131 underlying3 (.t rfl) (.t rfl) (hS.get 3 rfl) (Ll.2 ⟨hk12.1, (show x.Kind ≤ ((11 : Nat) : Int) from by omega), rfl⟩)) rfl) (I (.nC (off := 0) underlying137 rfl rfl isAgg134 (.t rfl) rfl) (A3 (Fy (.t rfl) (.cu rfl) (gB x.Kind hk12.1 hk12.2)) rfl (Y0 x.Kind hk12.1 hk12.2 B11 _) ?_))))))))))))
  rintro _ w29 ⟨rfl, uw29⟩
  replace hS := hS.up uw29
  rw [← hj]
  refine LW.A rfl (Ai ?_)
  obtain ⟨v, hvj⟩ := Au (xs := vs) (i := j) oQ
  refine R5 6 (fun v w'' => Wx.Sep no w0 w'' [Cc B4 #[.slice none 0 0, .slice none 0 0, .slice none 0 0, .slice none 0 0, .slice none 0 0, .slice none 0 0, .slice none 0 0, .slice none 0 0, .slice none 0 0, .slice none 0 0, .slice none 0 0] 50, Ms.Fv B18 r54 (Ev M) (ds.map A7 ++ [A7 x]), Cc B11 vs.toArray 50, A4 bk (Qv Xr 11), Dt ((lists 28 19 Fact.cells vs (Y2 [] ds)).set j (J 28 19 Fact.cells v (Ed [] ds j ++ [x]))), Cc B14 x.cells 28]) kQ kQ kQ kQ kQ kQ rfl rfl rfl rfl rfl (U (.mv rfl) (U (.mv rfl) (U (.nc rfl) (U (.lb rfl (hS.b2.cell (by simpa using hvj))) (U (.lc rfl (hS.b5.agg)) (HW.r (p := fun v w => Sl w v 19 (Fact.cells) [x]) (fun _ _ _ h u => Sl.up h u) rfl (fun w hu a ha => let ⟨v, w', h1, h2⟩ := REv.buildSlice (xs := [x]) (enc := Fact.cells) (mk := fun f : Fact => .agg f.cells) underlying25 sizeOf28 zeroValue28 rfl bQ (fun _ => rfl) (fun _ => rfl) (.cu rfl) rfl a ha; ⟨v, w', h1, h2.q⟩) rfl (HW.nil ⟨fun a w' hu ha => ?_, ?_⟩)))))))
  ·exact (REv.open (d := 73) (p := fun v w => Sl w v 19 Fact.cells [x]) rfl fun vv hv => (REv.C2 (bytes := 160) (i := Tryz.t28) underlying25 kQ rfl rfl rfl rfl cQ (fun _ => rfl) Fact.one (.t rfl) (.t rfl) (Ka ((hS.up hu).get 4 rfl) hvj (Gk _ _ hj11)) hv (by have := Rc [] ds j; simp only [List.length_cons, List.length_nil, maxLen]; omega) (by have := Rc [] ds j; simp only [List.length_cons, List.length_nil]; omega)).mono fun v' w'' h => (hS.up hu).Ez 4 rfl (Ss ((hS.up hu).get 4 rfl) (L5 hvj (Gk _ _ hj11)) h)).y ha
  intro v74 w30 hS
  have hv1 : v74.oneCell' = true := by
   have h := hS.get 4 rfl
   rw [Pq] at h
   exact Vo h (by rw [List.length_set, List.length_set, hvl, Io]) v74 (List.mem_of_getElem? (i := j) (by rw [List.getElem?_set_self (by omega)]))
  refine I (.nc rfl) (Be (.store sizeOf25 (.t rfl) (.t rfl) hv1 hS.b2 (by simp; omega)) ?_)
  intro w31 Nw31
  have zw31 := Nw31.size
  replace hS := hS.Cp 2 rfl (by rw [tS] at Nw31; exact Nw31)
  refine LW.nil (Ae (Ar ?_))
  exact ⟨(ds ++ [x], vs.set j v74), ⟨hds2, hdn2, by show (vs.set j v74).length = 11; rw [List.length_set]; exact hvl, by (rw [tP hgn hj11 hkj, ← Pq, List.map_append]; exact hS.take 5)⟩, tQ, by show M.length - (ds ++ [x]).length < M.length - ds.length; have := S5 hds hdn hmem hfr; simp; omega⟩
theorem JM (ad : Option Addr) (cp : Nat) (l : List Fact) (day : Int) (w : World) (hE0 : Els w ad 19 Fact.cells l) (hl : l.length ≤ 100000) : Ret prog 17 #[.slice ad l.length cp, vi day] w fun r w' => ∃ bc, r = .agg bc ∧ BaseC w' bc (D5 l day) ∧ Up w w' :=
 (gD ad cp l day w hE0 hl).mono fun _ _ ⟨bc, _, e, hB, h1, h2, _, _, u⟩ => ⟨bc, e, oK h1 h2 ▸ hB, u⟩
theorem AE (ad : Option Addr) (cp : Nat) (l : List Fact) (day : Int) (w : World) (hE0 : Els w ad 19 Fact.cells l) (hl : l.length ≤ 100000) : Ret prog 17 #[.slice ad l.length cp, vi day] w fun r w' => ∃ bc, r = .agg bc ∧ BaseC w' bc (D5 l day) ∧ gC w.heap.size bc ∧ Up w w' :=
 (gD ad cp l day w hE0 hl).mono fun _ _ ⟨bc, _, e, hB, h1, h2, h3, _, u⟩ => ⟨bc, e, oK h1 h2 ▸ hB, h3, u⟩
end Go.Proofs.YtgjogglfnkgapaaGreatDoor
