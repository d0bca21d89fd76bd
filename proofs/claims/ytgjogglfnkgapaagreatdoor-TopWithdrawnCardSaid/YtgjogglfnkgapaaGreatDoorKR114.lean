import Derived.Test.YtgjogglfnkgapaaGreatDoorKR113
namespace Go.Wx
section
variable {P : Program} {n : Nat} {l : Env} {w : World} {fn : Func} {RR : Ending → World → Prop}
theorem pD {t u : Tmp} {T T' : TypeId} {B B' : Nat} {y x : Value} (hr : fn.results = #[.cell t T, .cell u T']) (hv : lk l t = some (.eq (.pointer (some ⟨B, 0, none⟩)))) (hu : lk l u = some (.eq (.pointer (some ⟨B', 0, none⟩)))) (hT : ∀ w, (isAgg T).run P w = .ok false w) (hy : w.cell? ⟨B, 0, none⟩ = some y)
   (hT' : ∀ w, (isAgg T').run P w = .ok false w) (hx : w.cell? ⟨B', 0, none⟩ = some x) (hR : RR (.returned (.tuple #[y, x])) w) : KW n [] (bodyPost P fn RR .ret) l w := fun a ha =>
 ⟨ha.defers, .tuple #[y, x], by
   have h1 : a.tmps.getD t undef = .pointer (some ⟨B, 0, none⟩) := ha.val _ _ hv
   have h2 : a.tmps.getD u undef = .pointer (some ⟨B', 0, none⟩) := ha.val _ _ hu
   rw [Array.getD_eq_getD_getElem?] at h1 h2
   simp [results, hr, h1, h2, asAddr, Gy hT hy, Gy hT' hx], hR⟩
theorem Md {t u s : Tmp} {T : TypeId} {B k : Nat} {cs : Array Value} {x y : Value} (hr : fn.results = #[.cell t T, .tmp u, .tmp s]) (hv : lk l t = some (.eq (.pointer (some ⟨B, 0, none⟩)))) (hu : lk l u = some (.eq x)) (hs' : lk l s = some (.eq y)) (hT : ∀ w, (isAgg T).run P w = .ok true w) (hs : ∀ w, (sizeOf T).run P w = .ok k w) (hk : cs.size = k)
   (hc : AggAt w B 0 cs) (hR : RR (.returned (.tuple #[.agg cs, x, y])) w) : KW n [] (bodyPost P fn RR .ret) l w := fun a ha =>
 ⟨ha.defers, .tuple #[.agg cs, x, y], by
   have h1 : a.tmps.getD t undef = .pointer (some ⟨B, 0, none⟩) := ha.val _ _ hv
   have h2 : a.tmps.getD u undef = x := ha.val _ _ hu
   have h3 : a.tmps.getD s undef = y := ha.val _ _ hs'
   rw [Array.getD_eq_getD_getElem?] at h1 h2 h3
   simp [results, hr, h1, h2, h3, asAddr, F6 hT hs hk hc], hR⟩
end
theorem Sep.JR {S0 : Nat → Prop} {w0 w w' : World} {As : List Asr} {A B : Asr} (h : Sep S0 w0 w As) (u : Up w w') (h1 : A.holds w') (h2 : B.holds w') (n1 : ∀ i, A.foot i → w.heap.size ≤ i) (n2 : ∀ i, B.foot i → w.heap.size ≤ i) (hd : ∀ i, A.foot i → ¬ B.foot i) : Sep S0 w0 w' (As ++ [A, B]) := by
 have h3 := h.add u (A' := Dt [A, B]) ⟨fun C hC => by simp at hC; rcases hC with rfl | rfl <;> assumption, by simpa using hd⟩ (fun i ⟨C, hC, hi⟩ => by simp at hC; rcases hC with rfl | rfl <;> first | exact n1 i hi | exact n2 i hi)
 have h4 := Sep.unfold (Bs := As) (As := [A, B]) (rest := []) h3
 simpa using h4
theorem Vz {S0 : Nat → Prop} {w0 w : World} {Bs As : List Asr} {A : Asr} (h : Sep S0 w0 w (Bs ++ [Dt As, A])) : Sep S0 w0 w (Bs ++ [Dt (As ++ [A])]) := by
 have h1 := Sep.unfold (Bs := Bs) (As := As) (rest := [A]) h
 have h2 := Oc (Bs := Bs) (As := As ++ [A]) (rest := []) (by simpa using h1)
 exact h2
theorem uG {α : Type} {enc : α → Array Value} {w : World} {b e k B : Nat} {v : Value} {xs : List α} {cs : Array Value} {T : TypeId} (h : OwnS w b e k enc v xs) (hb : Blk w B cs T) (hT : e ≠ T) : v.ownBlock ≠ some B := fun hv => by
 obtain ⟨h1, h2⟩ := h
 rcases h2 with h2 | ⟨g, cap, cur, rfl, hb2, hg, rest⟩
 · rw [h2.1] at hv; cases hv
 cases hv
 have := hg.symm.trans hb
 cases this
 exact hT rfl
structure DP where
 dec : Dec
 ad : Option Addr
 cp : Nat
def DP.uv (p : DP) : Value := .slice p.ad p.dec.uses.length p.cp
def DP.cells (p : DP) : Array Value := (p.dec.v p.uv).cells
theorem DP.one (p : DP) : p.cells.all (·.oneCell') = true := Zg _ rfl
def Ek (ti : TypeId) (L : List DP) : List Asr := L.map fun p => J ti 1 Br p.uv p.dec.uses
theorem Tg (ti : TypeId) (L : List DP) (p : DP) : Ek ti L ++ [J ti 1 Br p.uv p.dec.uses] = Ek ti (L ++ [p]) := by unfold Ek; rw [List.map_append]; rfl
theorem I0 {ti : TypeId} {L : List DP} {w : World} (h : (Dt (Ek ti L)).holds w) : ∀ p ∈ L, Sl w p.uv 1 Br p.dec.uses := fun p hp => OwnS.sl (show OwnS w 0 ti 1 Br p.uv p.dec.uses from h.1 _ (List.mem_map.2 ⟨p, hp, rfl⟩)) (fun _ => rfl)
def JS (w : World) (v : Value) (D : Dec) : Prop := ∃ ad cp, v = .agg (DP.cells ⟨D, ad, cp⟩) ∧ Sl w (.slice ad D.uses.length cp) 1 Br D.uses
def yA (w : World) (v : Value) (Ds : List Dec) : Prop := ∃ L : List DP, Sl w v 6 DP.cells L ∧ (∀ p ∈ L, Sl w p.uv 1 Br p.dec.uses) ∧ L.map DP.dec = Ds
def Nn : Dec := ⟨0, rz, rz, []⟩
def gL (b : Base) (t c r : Int) (rs : List Fact) (i : Nat) : Dec := match rs[i]? with
 | some x => { F2 b t c r x.Time (rs.take i) with run := x.ID }
 | none => Nn
theorem Jc {b : Base} {t c r : Int} {rs : List Fact} {i : Nat} {x : Fact} (h : rs[i]? = some x) : gL b t c r rs i = { F2 b t c r x.Time (rs.take i) with run := x.ID } := by unfold gL; rw [h]
def Fj (b : Base) (t c r : Int) : List Dec := (List.range (Ey b t c r).length).map (gL b t c r (Ey b t c r))
theorem Jd (b : Base) (t c r : Int) : (Fj b t c r).length = (Ey b t c r).length := by unfold Fj; rw [List.length_map, List.length_range]
theorem uH {b : Base} {t c r : Int} {i : Nat} {x : Fact} (h : (Ey b t c r)[i]? = some x) : (Fj b t c r)[i]? = some { F2 b t c r x.Time ((Ey b t c r).take i) with run := x.ID } := by
 have hi := (List.getElem?_eq_some_iff.1 h).1
 unfold Fj
 rw [List.getElem?_map, List.getElem?_range hi]
 exact congrArg some (Jc h)
theorem Th {α : Type} (f : Nat → α) (k : Nat) : (List.range (k + 1)).map f = (List.range k).map f ++ [f k] := by rw [List.range_succ, List.map_append]; rfl
theorem BaseC.lit {w : World} {bc : Array Value} {b : Base} (h : BaseC w bc b) : ∃ v0 v1 v2 v3 v4 v5 v6 v7 v8 v9 v10, bc = #[v0, v1, v2, v3, v4, v5, v6, v7, v8, v9, v10] := by
 obtain ⟨v0, v1, v2, v3, v4, v5, v6, v7, v8, v9, v10, e, _⟩ := h
 exact ⟨v0, v1, v2, v3, v4, v5, v6, v7, v8, v9, v10, e⟩
theorem kP (b : Base) (t c r time : Int) (a : List Fact) : (F2 b t c r time a).uses.length ≤ a.length := Nat.le_trans (L8 b.Measures b.Targets r time (Dl (Gh b t c time) a)).2.2 (Nl _ _)
def JT (g : DP → Bool) (l : List DP) (i : Int) : Prop := (∃ k x, i = ((k : Nat) : Int) ∧ l[k]? = some x ∧ g x = true ∧ ∀ y ∈ l.take k, g y = false) ∨ (i = -1 ∧ ∀ y ∈ l, g y = false)
theorem cO {p : DP → Bool} {l : List DP} {k : Nat} {x : DP} (h : l[k]? = some x) (hk : ∀ y ∈ l.take k, p y = false) (hx : p x = false) : ∀ y ∈ l.take (k + 1), p y = false := fun y hy => by
 rw [List.take_add_one, h] at hy
 rcases List.mem_append.1 hy with hy | hy
 · exact hk y hy
 cases List.mem_singleton.1 hy; exact hx
def Xs (a b : Rt) : Bool := (a.n == b.n) && ((a.d == b.d) && true)
theorem gM (a b : Rt) : Xs a b = true ↔ a = b := by
 obtain ⟨an, ad⟩ := a
 obtain ⟨bn, bd⟩ := b
 unfold Xs
 simp
theorem Zl (a : Rt) : Xs a a = true := (gM a a).2 rfl
def It (b : Base) (id : Int) : Dec × Bool × Int := match Eo b id with
 | none => (Nn, false, 200)
 | some f => match (Fj b f.Tool f.Chamber f.Recipe).find? fun D => decide (D.run = id) with
   | none => (Nn, false, 200)
   | some D => (D, decide ((La f.Value 1000).2 = 0) && Xs (La f.Value 1000).1 D.par, 0)
theorem kR {b : Base} {id : Int} (h : Eo b id = none) : It b id = (Nn, false, 200) := by unfold It; rw [h]
theorem uI {b : Base} {id : Int} {f : Fact} {L : List DP} (h : Eo b id = some f) (hL : L.map DP.dec = Fj b f.Tool f.Chamber f.Recipe) (hn : ∀ y ∈ L, decide (y.dec.run = id) = false) : It b id = (Nn, false, 200) := by
 have e : ((Fj b f.Tool f.Chamber f.Recipe).find? fun D => decide (D.run = id)) = none := by
   rw [← hL]
   refine List.find?_eq_none.2 fun D hD => ?_
   obtain ⟨y, hy, rfl⟩ := List.mem_map.1 hD
   rw [hn y hy]; exact Bool.false_ne_true
 unfold It; rw [h]; dsimp only; rw [e]
theorem pE {L : List DP} {k : Nat} {x : DP} {q : Dec → Bool} (hx : L[k]? = some x) (hq : q x.dec = true) (hn : ∀ y ∈ L.take k, q y.dec = false) : (L.map DP.dec).find? q = some x.dec := by
 have hlt := (List.getElem?_eq_some_iff.1 hx).1
 have e : L = L.take k ++ x :: L.drop (k + 1) := by
   have h1 : L.drop k = x :: L.drop (k + 1) := by
     rw [List.drop_eq_getElem_cons hlt, (List.getElem?_eq_some_iff.1 hx).2]
   rw [← h1, List.take_append_drop]
 rw [e, List.map_append, List.map_cons, List.find?_append, List.find?_eq_none.2 (fun D hD => by
   obtain ⟨y, hy, rfl⟩ := List.mem_map.1 hD
   rw [hn y hy]; exact Bool.false_ne_true), List.find?_cons, hq]
 rfl
theorem V0 {b : Base} {id : Int} {f : Fact} {L : List DP} {k : Nat} {x : DP} (h : Eo b id = some f) (hL : L.map DP.dec = Fj b f.Tool f.Chamber f.Recipe) (hx : L[k]? = some x) (hr : decide (x.dec.run = id) = true) (hn : ∀ y ∈ L.take k, decide (y.dec.run = id) = false) :
   It b id = (x.dec, decide ((La f.Value 1000).2 = 0) && Xs (La f.Value 1000).1 x.dec.par, 0) := by
 have e := pE (q := fun D => decide (D.run = id)) hx hr hn
 rw [hL] at e
 unfold It; rw [h]; dsimp only; rw [e]
theorem Sep.join {S0 : Nat → Prop} {w0 w w' : World} {As Bs : List Asr} (h : Sep S0 w0 w As) (k : Sep no w w' Bs) : Sep S0 w0 w' (As ++ Bs) := by
 have h3 := h.add k.Cr (A' := Dt Bs) ⟨fun A hA => (k.each A hA).1, k.apart⟩ (fun i ⟨A, hA, hi⟩ => ((k.each A hA).2 i hi).resolve_left (fun h => h))
 have h4 := Sep.unfold (Bs := As) (As := Bs) (rest := []) h3
 simpa using h4
theorem pF {w : World} {B o : Nat} {p : DP} (h : AggAt w B o p.cells) : AggAt w B (o + 1) p.dec.par.cells := fun j v hv => by
 have h2 : p.cells[1 + j]? = some v := by
   match j with
   | 0 => simpa [Rt.cells, DP.cells, DecV.cells, Dec.v] using hv
   | 1 => simpa [Rt.cells, DP.cells, DecV.cells, Dec.v] using hv
   | j + 2 => simp [Rt.cells] at hv
 have := h (1 + j) v h2
 rwa [show o + (1 + j) = o + 1 + j by omega] at this
theorem yB {n d : Int} (h : Oe n d = false) : La n d = (HA, 30) := if_neg (by rw [h]; exact Bool.false_ne_true)
theorem kS {b : Base} {id : Int} {f : Fact} (h : Eo b id = some f) : f ∈ b.Processes := List.mem_of_find?_eq_some h
end Go.Wx
namespace Go.Proofs.YtgjogglfnkgapaaGreatDoor
open Go.Proofs.Tryz
open Go.Wx Go.RowKit
set_option maxRecDepth 4000 in
theorem Me (a b : Rt) (w : World) : (Op.equalIn 10000 39 (.agg a.cells) (.agg b.cells)).run Tryz.prog w = .ok (Xs a b) w := by
 have hf : Tryz.prog.underlying 39 = some (.struct (Tryz.prog.fieldsOf 39)) := by rw [Program.fieldsOf, underlying39]
 rw [run_equalIn_agg w 9999 39 _ _ hf stoodInHeld39]
 have h : (Op.eqFields 9999 a.cells b.cells (Tryz.prog.fieldsOf 39).toList).run Tryz.prog w = .ok (Xs a b) w := by
   rw [Program.fieldsOf, underlying39]
   dsimp only
   iterate 2 (refine Pb cQ isAgg3 rfl rfl (run_equalIn_int w 9998 _ _ _ _ _ underlying3) ?_)
   rfl
 exact h
theorem pG (B3 B2 : Nat) (w : World) (ho : Blk w B3 #[vi 0] 40) : sF Tryz.prog 234 #[.pointer (some ⟨B3, 0, none⟩), .pointer (some ⟨B2, 0, none⟩)] w fun w' => Stp (Cc B3 #[vi 0] 40) (Cc B3 #[vi 0] 40) w w' := by
 obtain ⟨w0, rfl, _⟩ := W0 w
 have hS : Wx.Sep (Cc B3 #[vi 0] 40).foot w0 w0 [Cc B3 #[vi 0] 40] := Sep.cons ho (fun _ h => h) (Sep.start _ _) (by simp)
 refine N7 (n := 6) (args := [.pointer (some ⟨B3, 0, none⟩), .pointer (some ⟨B2, 0, none⟩)]) func234 rfl rfl rfl (DW.seq (m := 9) (DW.region (mS (fun a => Qb) rfl rfl rfl (DL.c (eC (.o rfl) (EX)) rfl rfl rfl rfl (Zj _) ?_))))
 rintro _ w1 ⟨rfl, uw1⟩
 replace hS := hS.up uw1
 refine DL.s (SEv.store sizeOf40 (.t rfl) (.t rfl) rfl hS.b0 bQ) rfl rfl rfl ?_
 intro w2 Nw2
 replace hS := hS.Cp 0 rfl (show Set_ _ w2 _ (#[vi 0]) _ from Nw2)
 refine DL.nil (Ac (Af (I (.lb rfl (hS.b0.Ah rfl)) (I (.neq (.t rfl) (.const _)) (Ai (CW.f rfl (Aj (C7 rfl ⟨_, rfl, ?_⟩))))))))
 exact ⟨hS.fr, hS.get 0 rfl, fun _ h => .inl h⟩
theorem Uu (bc : Array Go.Value) (b : Base) (t c r : Int) (w : World) (hC : BaseC w bc b) (hlP : b.Processes.length ≤ 400) (hlR : b.Resets.length ≤ 100000) (hlM : b.Measures.length ≤ 100000) (hlT : b.Targets.length ≤ 100000) : Ret prog 118 #[.agg (E9 bc t c r)] w fun r0 w' => ∃ v L, r0 = .tuple #[v, vi 0] ∧ L.map DP.dec = Fj b t c r ∧ Wx.Sep no w w' [J 44 6 DP.cells v L, Dt (Ek 3 L)] := by
 obtain ⟨w0, rfl, hS⟩ := W0 w
 refine N6 (n := 34) (m := 9) func118 rfl rfl rfl (Af (Al (.bA rfl) rfl ?_))
 rintro _ w1 ⟨B1, rfl, NB1⟩
 replace hS := hS.Bn NB1
 refine Al (.H6 zeroValue32 rfl) rfl ?_
 rintro _ w2 ⟨B2, rfl, NB2⟩
 replace hS := hS.Bn NB2
 refine Al (.H6 zeroValue40 rfl) rfl ?_
 rintro _ w3 ⟨B3, rfl, NB3⟩
 replace hS := hS.Bn NB3
 refine Ao (Aa (I (.makeFunc (.ct rfl (.cu rfl))) (U8 (.t rfl) (Ao (Aa (I (.Gs isAgg237 sizeOf237 ((H4 hC t c r)) (.t rfl) (hS.b0.agg)) (A3 (eC (.o rfl) (EY)) rfl (pC bc b t c r _ (hC.up hS.Cr) oQ) ?_)))))))
 rintro v10 w4 ⟨hO10, uw4⟩
 replace hS := hS.add uw4 (A' := J 28 19 Fact.cells v10 (Ey b t c r)) (hO10.mono (Nat.zero_le _)) (fun i h => (hO10.base i h))
 obtain ⟨rs, ers⟩ : ∃ R, R = Ey b t c r := ⟨_, rfl⟩
 have hrl := G8 b t c r
 rw [← ers] at hS hrl
 obtain ⟨ad10, cp10, rfl, _⟩ := (hS.own 3 rfl).sl (fun _ => rfl)
 refine LW.A rfl (Ao (Am ?_))
 replace hS := hS.add (Up.refl _) (A' := J 44 6 DP.cells (.slice none 0 0) ([] : List DP)) (OwnS.nil _ _ _ _ _) (by intro i h; cases h)
 replace hS := hS.add (Up.refl _) (A' := Dt (Ek 3 [])) ⟨by simp [Ek], by simp [Ek]⟩ (by rintro i ⟨A, hA, _⟩; simp [Ek] at hA)
 refine Aa (Ab rfl (I (.Di underlying25 (.t rfl)) (I (.move (.const _)) (Ai (An (A8 (σ := Nat × Go.Value × List DP) (fun s w => (s.1 ≤ rs.length) ∧ (s.2.2.map DP.dec = (List.range s.1).map (gL b t c r rs)) ∧ (Wx.Sep no w0 w [Cc B1 (E9 bc t c r) 237, Cc B2 #[s.2.1] 32, Cc B3 #[vi 0] 40, J 28 19 Fact.cells (.slice ad10 rs.length cp10) rs, J 44 6 DP.cells s.2.1 s.2.2, Dt (Ek 3 s.2.2)])) (fun s => [(13, .eq (vi (s.1 : Int)))]) ([(1, .eq _), (2, .eq _), (3, .eq _), (4, .eq _), (11, .eq _), (12, .eq _)]) (fun s => rs.length - s.1) (0, .slice none 0 0, []) ?_ tQ ?_))))))
 ·exact ⟨Nat.zero_le _, rfl, hS⟩
 rintro ⟨k, v, L⟩ w5 ⟨hk, hL, hS⟩
 have hLl : L.length = k := by have h := congrArg List.length hL; simpa using h
 change CW _ _ _ _ _ _ _ ([(13, .eq (vi (k : Int)))] ++ _) _
 refine Af (I (.l2 rfl rfl) (Ao (CW.b rfl (fun h14 => ?_) (fun h14 => ?_))))
 ·replace h14 := dQ h14
  refine Aj (Ac (Am (An (Am ?_))))
  have hR : Els w5 ad10 19 Fact.cells rs := (hS.own 3 rfl).els (fun _ => rfl)
  refine Aa (Ab rfl ?_)
  obtain ⟨x, hx⟩ := Au (xs := rs) (i := k) oQ
  obtain ⟨Bx, ox, ax, hcx⟩ := hR _ x hx
  refine I (.Av underlying25 sizeOf28 (.t rfl) (.t rfl) oQ ax) (I (.lc rfl (hcx)) (Al (.Bm zeroValue28) rfl ?_))
  rintro _ w6 ⟨B6, rfl, MB6⟩
  refine LW.A rfl (Be (.Bi sizeOf28 rfl (.t rfl) (.t rfl) (Fact.one _) MB6.blk rfl) ?_)
  intro w7 LB6
  have NB6 := MB6.set LB6
  replace hcx := hcx.up NB6.up
  replace hS := hS.Bn NB6
  refine Ao (Ht 8 [.eq (.agg (E9 bc t c r)), .eq (.pointer (some ⟨B6, 5, none⟩)), .eq (vi x.Time), .eq (.slice ad10 rs.length cp10), .eq (vi (k : Int)), .eq (.slice ad10 (rs.take k).length cp10), .pred fun v W => ∃ ad cp, v = .agg (DP.cells ⟨F2 b t c r x.Time (rs.take k), ad, cp⟩) ∧ OwnS W w7.drew.heap.size 3 1 Br (.slice ad (F2 b t c r x.Time (rs.take k)).uses.length cp) (F2 b t c r x.Time (rs.take k)).uses, .pred fun v W => ∃ B, v = .pointer (some ⟨B, 0, none⟩) ∧ w7.drew.heap.size ≤ B ∧ Blk W B (DP.cells ⟨Nn, none, 0⟩) 44] [7, 24] kQ rfl kQ kQ kQ kQ kQ kQ kQ ⟨PhU.eq _, PhU.eq _, PhU.eq _, PhU.eq _, PhU.eq _, PhU.eq _, PhU.pred fun _ _ _ h u => let ⟨ad, cp, e, hb⟩ := h; ⟨ad, cp, e, hb.up u⟩, PhU.pred fun _ _ _ h u => let ⟨B, e, hz, hb⟩ := h; ⟨B, e, hz, hb.up u⟩, trivial⟩ ?_ ?_)
  ·intro W hU0
   have hU := (Up.drew w7).trans hU0
   have hSW := hS.up hU
   have zU0 := hU0.size
   have hcp := (hSW.own 3 rfl).KC
   have hEW : Els W ad10 19 Fact.cells rs := (hSW.own 3 rfl).els (fun _ => rfl)
   refine aC ⟨rfl, TU.p (.Gs isAgg237 sizeOf237 (H4 hC t c r) (.t rfl) (hSW.b0.agg)) rfl⟩ (aC ⟨rfl, TU.p (.fB 5 rfl) rfl⟩ (aC ⟨rfl, TU.p (.lb rfl ((hSW.blk 6 rfl).Ah rfl)) rfl⟩ (aC ⟨rfl, TU.p (.mv rfl) rfl⟩ (aC ⟨rfl, TU.p (.mv rfl) rfl⟩ (aC ⟨rfl, TU.p (.vl (PEv.N9 underlying25 sizeOf28 (.t rfl) (.t rfl) oQ) (by rw [List.length_take, Nat.min_eq_left (by omega)])) rfl⟩ (aC ⟨rfl, TU.c (eC (.ct rfl (.ct rfl (.cu rfl))) (EZ)) (cM bc b t c r x.Time ad10 cp10 (rs.take k) W (hC.up (hS.Cr.trans hU)) (Els.take hEW) (by rw [List.length_take]; omega) hlR hlM hlT) (by rintro v W1 ⟨u_, rfl, ho, hu⟩; obtain ⟨adu, cpu, rfl, _⟩ := ho.sl (fun _ => rfl); exact ⟨hu, adu, cpu, rfl, ho.mono zU0⟩)⟩ (aC ⟨rfl, TU.r (REv.Bm zeroValue44) (fun v W' h => let ⟨B, e, N⟩ := h; ⟨N.up, B, e, by rw [N.at_]; exact zU0, N.blk⟩)⟩ ?_)))))))
   exact allL.nil
  intro w8 g hU0 hg
  have hU := (Up.drew w7).trans hU0
  obtain ⟨B7, e7, z7, hB7⟩ : ∃ B, g 7 = .pointer (some ⟨B, 0, none⟩) ∧ w7.drew.heap.size ≤ B ∧ Blk w8 B (DP.cells ⟨Nn, none, 0⟩) 44 := hg 7 _ 7 cQ rfl rfl
  obtain ⟨ad7, cp7, e24, ho7⟩ : ∃ ad cp, g 24 = .agg (DP.cells ⟨F2 b t c r x.Time (rs.take k), ad, cp⟩) ∧ OwnS w8 w7.drew.heap.size 3 1 Br (.slice ad (F2 b t c r x.Time (rs.take k)).uses.length cp) (F2 b t c r x.Time (rs.take k)).uses := hg 6 _ 24 cQ rfl rfl
  change LW _ _ _ _ _ _ _ _ ((7, .eq (g 7)) :: (24, .eq (g 24)) :: _) _
  rw [e7, e24]
  replace hS := (hS.up (Up.drew _)).JR hU0 (A := Cc B7 (DP.cells ⟨Nn, none, 0⟩) 44) (B := J 3 1 Br (.slice ad7 (F2 b t c r x.Time (rs.take k)).uses.length cp7) (F2 b t c r x.Time (rs.take k)).uses) hB7 (ho7.mono (Nat.zero_le _)) (fun i (e : i = B7) => by omega) (fun i h => ho7.base i h) (fun i (e : i = B7) h2 => uG ho7 hB7 cQ (e ▸ h2))
  refine Be (.Bi sizeOf44 rfl (.t rfl) (.t rfl) (DP.one _) (hS.blk 7 rfl) rfl) ?_
  intro w9 Nw9
  replace hS := hS.Cp 7 rfl (show Set_ _ w9 _ (DP.cells ⟨F2 b t c r x.Time (rs.take k), ad7, cp7⟩) _ from Nw9)
  refine Ao (Aa (I (.fB 1 rfl) (I (.lb rfl ((hS.blk 6 rfl).Ah rfl)) (I (.fB 0 rfl) (Be (.store sizeOf3 (.t rfl) (.t rfl) rfl (hS.blk 7 rfl) bQ) ?_)))))
  intro w10 Nw10
  replace hS := hS.Cp 7 rfl (show Set_ _ w10 _ (DP.cells ⟨{ F2 b t c r x.Time (rs.take k) with run := x.ID }, ad7, cp7⟩) _ from Nw10)
  refine Ai (Aa (I (.lb rfl (hS.b1.Ah rfl)) (I (.lc rfl ((hS.blk 7 rfl).agg)) (Al (.buildSlice (xs := [(⟨{ F2 b t c r x.Time (rs.take k) with run := x.ID }, ad7, cp7⟩ : DP)]) (enc := DP.cells) (mk := fun p => .agg p.cells) underlying32 sizeOf44 zeroValue44 rfl cQ (fun _ => rfl) (fun _ => rfl) (.cu rfl) rfl) rfl ?_))))
  rintro _ w11 ⟨B30, cB30, rfl, NB30, yB30, xB30⟩
  replace hS := hS.up NB30.up
  have hE30 := xB30
  refine Al (.C2 (enc := DP.cells) (bytes := 64) (i := Tryz.t44) underlying32 kQ rfl rfl rfl rfl cQ (fun _ => rfl) DP.one (.t rfl) (.t rfl) (hS.own 4 rfl) (Aw hE30) (by simp [maxLen]; omega) (by simp; omega)) rfl ?_
  intro v31 w12 Gw12
  replace hS := hS.Ez 4 rfl Gw12
  refine Be (.store sizeOf32 (.t rfl) (.t rfl) ((hS.own 4 rfl).uC (fun _ => rfl)) hS.b1 bQ) ?_
  intro w13 Nw13
  replace hS := hS.Cp 1 rfl (show Set_ _ w13 _ (#[v31]) _ from Nw13)
  refine LW.nil (Ae (Ac ?_))
  have h9 := Vz (Bs := [_, _, _, _, _]) (hS.sub (.cons_cons _ (.cons_cons _ (.cons_cons _ (.cons_cons _ (.cons_cons _ (.cons_cons _ (.cons _ (.cons _ (.cons_cons _ .slnil))))))))))
  replace h9 : Wx.Sep no w0 w13 ([_, _, _, _, _] ++ [Dt (Ek 3 L ++ [J 3 1 Br (DP.uv ⟨{ F2 b t c r x.Time (rs.take k) with run := x.ID }, ad7, cp7⟩) (DP.dec ⟨{ F2 b t c r x.Time (rs.take k) with run := x.ID }, ad7, cp7⟩).uses])]) := h9
  rw [Tg] at h9
  refine Aa (I (.ic rfl oQ) (Ab rfl (LW.nil (Ar ?_))))
  exact ⟨(k + 1, v31, L ++ [(⟨{ F2 b t c r x.Time (rs.take k) with run := x.ID }, ad7, cp7⟩ : DP)]), ⟨by show k + 1 ≤ _; omega, by rw [List.map_append, Th, hL, Jc hx]; rfl, h9⟩, tQ, by show rs.length - (k + 1) < rs.length - k; omega⟩
 replace h14 := dQ h14
 refine Bl (Ad (Ad (Aq (Ac (Af (I (.lb rfl (hS.b1.Ah rfl)) (Be (.store sizeOf32 (.t rfl) (.t rfl) ((hS.own 4 rfl).uC (fun _ => rfl)) hS.b1 bQ) ?_)))))))
 intro w14 Nw14
 replace hS := hS.Cp 1 rfl (show Set_ _ w14 _ (#[v]) _ from Nw14)
 refine Be (.store sizeOf40 (.t rfl) (.const _) rfl hS.b2 bQ) ?_
 intro w15 Nw15
 replace hS := hS.Cp 2 rfl (show Set_ _ w15 _ (#[vi 0]) _ from Nw15)
 refine Ai (Ak (eX (f := 234) (args := #[.pointer (some ⟨B3, 0, none⟩), .pointer (some ⟨B2, 0, none⟩)]) (by exact (EW _ _)) rfl (pG B3 B2 _ hS.b2) (fun w9 u9 => ?_)))
 replace hS := hS.Ez 2 rfl u9
 refine pD rfl rfl rfl isAgg32 (hS.b1.Ah rfl) isAgg40 (hS.b2.Ah rfl) ⟨_, rfl, ?_⟩
 have hkl : k = rs.length := by omega
 exact ⟨v, L, rfl, by rw [hL, hkl, ers]; rfl, hS.sub (.cons _ (.cons _ (.cons _ (.cons _ (.cons_cons _ (.cons_cons _ .slnil))))))⟩
theorem Mx (bc : Array Go.Value) (b : Base) (t c r : Int) (w : World) (hC : BaseC w bc b) (hlP : b.Processes.length ≤ 400) (hlR : b.Resets.length ≤ 100000) (hlM : b.Measures.length ≤ 100000) (hlT : b.Targets.length ≤ 100000) : Ret prog 52 #[.agg bc, vi t, vi c, vi r] w fun r0 w' => ∃ v L, r0 = v ∧ L.map DP.dec = Fj b t c r ∧ Wx.Sep no w w' [J 44 6 DP.cells v L, Dt (Ek 3 L)] := by
 obtain ⟨w0, rfl, hS⟩ := W0 w
 obtain ⟨v0, v1, v2, v3, v4, v5, v6, v7, v8, v9, v10, rfl⟩ := hC.lit
 refine cT 21 func52 rfl (Af (Al (.bA rfl) rfl ?_))
 rintro _ w1 ⟨B4, rfl, NB4⟩
 replace hS := hS.Bn NB4
 refine Ay (Ao (Aa (I (.lc rfl (hS.b0.agg)) (Ab rfl (Ab rfl (Ab rfl (I (.build (cs := E9 #[v0, v1, v2, v3, v4, v5, v6, v7, v8, v9, v10] t c r) underlying237 zeroValue237 R0 (.ct rfl (.ct rfl (.ct rfl (.cu rfl)))) kQ) (A3 (eC (.o rfl) (CL)) rfl (Uu #[v0, v1, v2, v3, v4, v5, v6, v7, v8, v9, v10] b t c r _ (hC.up hS.Cr) hlP hlR hlM hlT) ?_))))))))
 rintro _ w2 ⟨v17, L, rfl, hLm, hT⟩
 replace hS := hS.join hT
 refine Ab rfl (I (.xt rfl rfl) (I (.xt rfl rfl) (LW.A rfl (LW.A rfl (Ao (Aa (Ab rfl (LW.A rfl (Ai (Ak (KW.q ?_)))))))))))
 exact ⟨v17, L, rfl, hLm, hS.sub (.cons _ (.cons_cons _ (.cons_cons _ .slnil)))⟩
end Go.Proofs.YtgjogglfnkgapaaGreatDoor
namespace Go.Wx
open Go.RowKit
section
variable {R : Option Nat} {m : Nat} {P : Program} {n : Nat} {ds : List Deferred} {Q : Exit → Go.Act → World → Prop} {l : Env} {w : World}
def TW (P : Program) (n : Nat) (ds : List Deferred) (ops : Array Oper) (env : Env) (W : World) (o : Oper) (v : Value) : Prop := ∀ a, Ag n ds env a W → if Region.wanted o (yielded ops a.tmps) = true then aO P o a W (fun u W' => Up W W' ∧ u = v) else v = undef
section
variable {ops : Array Oper} {env : Env} {W : World} {o : Oper} {v : Value}
theorem TW.p (h : PEv P n ds env W o v) (hg : o.guard = none) : TW P n ds ops env W o v := fun a ha => by
 rw [if_pos (by simp [Region.wanted, hg])]
 exact .inl ⟨v, W, h a W ha (Up.refl W), Up.refl W, rfl⟩
theorem TW.yp {j dj : Nat} {oj : Oper} {want : Bool} (h : PEv P n ds env W o v) (hg : o.guard = some (j, want)) (hj : ops[j]? = some oj) (hdj : oj.dst = some dj) (hdn : Nat.ble (dj + 1) n = true) (hb : lk env dj = some (.eq (.bool want))) : TW P n ds ops env W o v := fun a ha => by
 have hw := Ff (o := o) (ops := ops) (a := a) hg hj hdj (by rw [ha.size]; exact Nat.le_of_ble_eq_true hdn) (ha.val _ _ hb)
 have e : (want == want) = true := by cases want <;> rfl
 rw [hw, e, if_pos rfl]
 exact .inl ⟨v, W, h a W ha (Up.refl W), Up.refl W, rfl⟩
theorem TW.no {j dj : Nat} {oj : Oper} {want b : Bool} (hg : o.guard = some (j, want)) (hj : ops[j]? = some oj) (hdj : oj.dst = some dj) (hdn : Nat.ble (dj + 1) n = true) (hb : lk env dj = some (.eq (.bool b))) (hne : (b == want) = false) : TW P n ds ops env W o undef := fun a ha => by
 have hw := Ff (o := o) (ops := ops) (a := a) hg hj hdj (by rw [ha.size]; exact Nat.le_of_ble_eq_true hdn) (ha.val _ _ hb)
 rw [hw, hne, if_neg Bool.false_ne_true]
end
theorem Zm {id : Nat} {opsL : List Oper} (k h : Nat) (vs : List Value) (keep : List Nat) (S : Nat → Prop) (PreH PostH : World → Prop) (hm : P.follows .mixedOrders = true) (hl : Cf l = true)
   (hA : D7 opsL.toArray = true) (hC : (Nat.beq k opsL.toArray.size || Fh opsL.toArray k) = true) (hF : Jl opsL.toArray k = true) (hks : Nat.ble k opsL.toArray.size = true) (hD : G2 n opsL.toArray 0 k = true) (hTl : G0 opsL.toArray k = true)
   (hfree : Kr l (opsL.take k) = true) (hhk : Nat.ble (h + 1) k = true) (hPr : PreH w.drew) (hRU : ∀ W W', PreH W → Up W W' → PreH W') (hPU : ∀ W W', PostH W → Up W W' → PostH W')
   (hop : ∀ W, Fr S w.drew W → allL (fun i o => (i ≠ h → TW P n ds opsL.toArray (Ml opsL.toArray (fun i => .eq (vs.getD i undef)) 0 o ++ l) W o (vs.getD i undef)) ∧
     (i = h → (PreH W → SEv P n ds (Ml opsL.toArray (fun i => .eq (vs.getD i undef)) 0 o ++ l) W o (fun W' => Fr S W W' ∧ PostH W')) ∧ o.guard = none ∧ o.dst = none)) 0 (opsL.take k))
   (hend : ∀ W, Fr S w.drew W → PostH W → LW R m P n ds opsL.toArray Q (opsL.drop k) (keep.map (fun i => (((opsL[i]?).bind (·.dst)).getD 0, .eq (vs.getD i undef))) ++ l) W)
   (hkp : (keep.all fun i => Nat.ble (i + 1) k && ((opsL[i]?).bind (·.dst)).isSome) = true) :
   CW R m P n ds (.region id opsL.toArray true) Q l w := by
 have hks' : k ≤ opsL.length := by have := Nat.le_of_ble_eq_true hks; simp at this; omega
 have sub : ∀ j o, j < k → opsL.toArray[j]? = some o → (opsL.take k)[j]? = some o := fun j o hjk ho => by
   rw [List.getElem?_take_of_lt hjk]; simpa using ho
 have hbd : ∀ i ph, lk l i = some ph → ∀ (j : Nat) (o : Oper), 0 ≤ j → j < k → opsL.toArray[j]? = some o → o.dst ≠ some i := fun i ph hi j o _ hjk ho => Gu hfree hi (List.mem_of_getElem? (sub j o hjk ho))
 refine Fl hm hl fun fuel listed a hf hu ha => (Jm (k := k) (fun i => .eq (vs.getD i undef)) (Fr S) (fun L _ W => ((L h = true → PostH W) ∧ (L h = false → PreH W)) ∧ Fr S w.drew W) (f0 := fun t => a.tmps.getD t undef) (Fr.refl S) (fun _ _ _ => Fr.trans) (fun i v w w' h u => h) hA hC hF hks (by simp) hD hl hbd ?_ ⟨⟨fun hh => by simp at hh, fun _ => hPr⟩, Fr.refl _ _⟩ ?_ fuel listed a hf hu ha (fun _ => rfl))
 · intro i o _ hi hio L f W hU0 hDn hLi hed hInv a ha hsl
   have hU := hInv.2
   have h3 := (hop W hU).at (sub i o hi hio)
   rw [Nat.zero_add] at h3
   by_cases ih : i = h
   · obtain ⟨h4, hg, hd⟩ := h3.2 ih
     rw [if_pos (by simp [Region.wanted, hg])]
     obtain ⟨W', hr, hf', hp⟩ := h4 (hInv.1.2 (by rw [← ih]; exact hLi)) a ha
     exact .inr ⟨W', hr, hf', (fun d e => nomatch (hd.symm.trans e)), ⟨fun _ => hp, fun hh => by rw [ih] at hh; simp [C9] at hh⟩, hU.trans hf'⟩
   have h4 := h3.1 ih a ha
   have done : ∀ v W', Up W W' ∧ v = vs.getD i undef → Fr S W W' ∧ (∀ d, o.dst = some d → (Ph.eq (vs.getD i undef)).holds v W') ∧ ((C9 L i h = true → PostH W') ∧ (C9 L i h = false → PreH W')) ∧ Fr S w.drew W' := fun v W' hv =>
     ⟨hv.1.fr S, fun _ _ => hv.2, ⟨fun hh => hPU W W' (hInv.1.1 (by simpa [C9, Ne.symm ih] using hh)) hv.1, fun hh => hRU W W' (hInv.1.2 (by simpa [C9, Ne.symm ih] using hh)) hv.1⟩, hU.trans (hv.1.fr S)⟩
   split at h4
   · rename_i hw
     rw [if_pos hw]
     rcases h4 with ⟨v, W', hr, hp⟩ | ⟨fn, args, w1, hr, hc⟩
     · exact .inl (.inl ⟨v, W', hr, done v W' hp⟩)
     exact .inl (.inr ⟨fn, args, w1, hr, hc.mono done⟩)
   rename_i hw
   rw [if_neg hw]
   exact done undef W ⟨Up.refl W, h4.symm⟩
 intro f W hR hInv fuel' listed' a' hf' hu' ha' hsl'
 refine Fm hTl hA (opsL.toArray.size - k) k fuel' listed' a' W rfl (by simp; omega) (Nat.le_refl _) hf' hu' (hend W hInv.2 (hInv.1.1 (decide_eq_true (Nat.le_of_ble_eq_true hhk))) a' ⟨ha'.defers, ha'.size, fun t q ht => ?_⟩)
 rcases Cy ht with h1 | h1
 · obtain ⟨i, hi, he⟩ := List.mem_map.1 (Kq h1)
   cases he
   have hk1 := List.all_eq_true.1 hkp i hi
   rw [Bool.and_eq_true] at hk1
   have hik : i < k := Nat.le_of_ble_eq_true hk1.1
   cases ho : opsL[i]? with
   | none => rw [ho] at hk1; cases hk1.2
   | some o =>
     rw [ho] at hk1
     cases hd : o.dst with
     | none => simp [hd] at hk1
     | some d =>
       have ho' : opsL.toArray[i]? = some o := by simpa using ho
       have hmem : (d, Ph.eq (vs.getD i undef)) ∈ He opsL.toArray (fun i => .eq (vs.getD i undef)) 0 k := by
         unfold He
         rw [List.mem_filterMap]
         exact ⟨i, List.mem_range.2 hik, by rw [if_pos (by simp), ho']; simp [hd]⟩
       obtain ⟨q', hq⟩ := Hf hmem
       obtain ⟨j, p, _, hjk, hp, hpd, e⟩ := Fo hq
       have : j = i := by
         by_cases ee : j = i
         · exact ee
         exact absurd hpd ((Dk hD (Nat.zero_le _) hik ho' hd).2 j p (Nat.zero_le _) hjk ee hp)
       subst this
       have h5 := ha'.val d q' (Ks hq)
       rw [e] at h5
       have e6 : (((some o).bind fun x => x.dst).getD 0) = d := by simp [hd]
       rw [e6]
       exact h5
 refine ha'.val t q ?_
 rw [Ge]
 · exact h1
 cases hq : lk (He opsL.toArray (fun i => .eq (vs.getD i undef)) 0 k) t with
 | none => rfl
 | some q' =>
   obtain ⟨j, p, _, hjk, hp, hpd, _⟩ := Fo hq
   exact absurd hpd (hbd t q h1 j p (Nat.zero_le _) hjk hp)
end
end Go.Wx
namespace Go.Proofs.YtgjogglfnkgapaaGreatDoor
open Go.Proofs.Tryz
open Go.Wx Go.RowKit
theorem cP (cf : Nat) (lb : Array Go.Value) (p : DP → Bool) (hen : ∀ args w, (callFunc cf args).run Tryz.prog w = .ok (.enter cf args) w) (ad : Option Addr) (cp : Nat) (l : List DP) (w : World) (hE0 : Els w ad 6 DP.cells l) (hl : l.length ≤ 100000) (hp : ∀ W, Up w W → ∀ x, Ret Tryz.prog cf (#[.agg (DP.cells x)] ++ lb) W fun r W' => r = .bool (p x) ∧ Up W W') : Ret prog 120 #[.slice ad l.length cp, .func (.func cf) #[] lb] w fun r w' => ∃ i, r = vi i ∧ JT p l i ∧ Up w w' := by
 have hW := Up.refl w
 obtain ⟨w0, rfl, _⟩ := W0 w
 refine cT 19 func120 rfl (Af (Ay (Ao (Af (Ab rfl (I (.Di underlying32 (.t rfl)) (I (.move (.const _)) (Ai (An (A8 (σ := Nat) (fun s w => (s ≤ l.length) ∧ (∀ y ∈ l.take s, p y = false) ∧ (Up w0 w)) (fun s => [(8, .eq (vi (s : Int)))]) ([(0, .eq _), (1, .eq _), (7, .eq _)]) (fun s => l.length - s) 0 ?_ tQ ?_))))))))))
 ·exact ⟨Nat.zero_le _, by simp, hW⟩
 rintro k w1 ⟨hk, hn, hW⟩
 refine Af (I (.l2 rfl rfl) (Ao (CW.b rfl (fun h9 => ?_) (fun h9 => ?_))))
 ·replace h9 := dQ h9
  refine Aj (Ac (Am (An (Af (Ab rfl (LW.A rfl (Ao ?_)))))))
  have hE := Els.up hE0 hW
  refine Aa (Ab rfl (Ab rfl (Ab rfl ?_)))
  obtain ⟨x, hx⟩ := Au (xs := l) (i := k) oQ
  obtain ⟨Bx, ox, ax, hcx⟩ := hE _ x hx
  refine I (.Av underlying32 sizeOf44 (.t rfl) (.t rfl) oQ ax) (I (.lc rfl (hcx)) (A3 (Cs (.t rfl) (.cu rfl) (hen)) rfl (hp _ hW x) ?_))
  rintro _ w2 ⟨rfl, uw2⟩
  replace hW := hW.up uw2
  replace hcx := hcx.up uw2
  refine Ai (CW.b rfl (fun h16 => ?_) (fun h16 => ?_))
  ·replace h16 := dQ h16
   refine Af (Ab rfl (LW.A rfl (Ai (Ak (A9 (Ap (Ap (A9 (Ap (KW.q ?_))))))))))
   exact ⟨_, rfl, .inl ⟨k, x, rfl, hx, by simpa using h16, hn⟩, hW⟩
  replace h16 := dQ h16
  refine Aj (Ae (Ac (Aa (I (.ic rfl oQ) (Ab rfl (LW.nil (Ar ?_)))))))
  exact ⟨k + 1, ⟨by omega, cO hx hn (by simpa using h16), hW⟩, tQ, by omega⟩
 replace h9 := dQ h9
 refine Bl (Ad (Ad (Aq (Ac (Af (Ay (Ai (Ak (KW.q ?_)))))))))
 exact ⟨-1, rfl, .inr ⟨rfl, by rw [show k = l.length by omega, List.take_length] at hn; exact hn⟩, hW⟩
theorem kT (x : DP) (id : Int) (B : Nat) (w : World) (hB : Blk w B #[vi id] 3) : Ret prog 121 #[.agg (DP.cells x), .pointer (some ⟨B, 0, none⟩)] w fun r w' => r = .bool (decide (x.dec.run = id)) ∧ Up w w' := by
 have hW := Up.refl w
 refine cT 8 func121 rfl (Af (Al (.bA rfl) rfl ?_))
 rintro _ w1 ⟨B2, rfl, NB2⟩
 replace hB := hB.up NB2.up
 replace hW := hW.up NB2.up
 have hB2 := NB2.blk
 refine Ay (Ao (Aa (I (.fB 0 rfl) (I (.lb rfl (hB2.Ah rfl)) (I (.lb rfl (hB.Ah rfl)) (I (.eql (.t rfl) (.t rfl)) (LW.A rfl (Ai (Ak (KW.q ?_))))))))))
 exact ⟨rfl, hW⟩
theorem Zn (bc : Array Go.Value) (b : Base) (id : Int) (w : World) (hC : BaseC w bc b) (hlP : b.Processes.length ≤ 400) (hlR : b.Resets.length ≤ 100000) (hlM : b.Measures.length ≤ 100000) (hlT : b.Targets.length ≤ 100000) (hV : ∀ f ∈ b.Processes, J1 f.Value) : Ret prog 53 #[.agg bc, vi id] w fun r0 w' => ∃ v, r0 = .tuple #[v, .bool (It b id).2.1, vi (It b id).2.2] ∧ JS w' v (It b id).1 ∧ Up w w' := by
 obtain ⟨w0, rfl, hS⟩ := W0 w
 refine cT 57 func53 rfl (Af (Al (.bA rfl) rfl ?_))
 rintro _ w1 ⟨B2, rfl, NB2⟩
 replace hS := hS.Bn NB2
 refine Al (.Pc (.t rfl) rfl) rfl ?_
 rintro _ w2 ⟨B3, rfl, NB3⟩
 replace hS := hS.Bn NB3
 refine Al (.Bm zeroValue44) rfl ?_
 rintro _ w3 ⟨B4, rfl, NB4⟩
 replace hS := hS.Bn NB4
 refine Ay (Ay (Ao ?_))
 cases hq1 : Eo b id with
 | none =>
  refine Aa (I (.Gs isAgg50 sizeOf50 (hC.size) (.t rfl) (hS.b0.agg)) (I (.lb rfl (hS.b1.Ah rfl)) (A3 (eC (.u rfl rfl) (mL)) rfl (Lr bc b id _ (hC.up hS.Cr) oQ) ?_)))
  rintro _ w4 ⟨rfl, uw4⟩
  replace hS := hS.up uw4
  rw [hq1]
  refine Ab rfl (I (.xt rfl rfl) (I (.xt rfl rfl) (Al (.Bm zeroValue28) rfl ?_)))
  rintro _ w5 ⟨B7, rfl, MB7⟩
  refine Be (.Bi sizeOf28 rfl (.t rfl) (.t rfl) (Fact.one _) MB7.blk rfl) ?_
  intro w6 LB7
  have NB7 := MB7.set LB7
  replace hS := hS.Bn NB7
  refine LW.A rfl (Ao (Af (Ab rfl (I (.n1 rfl) (Ai (CW.v rfl (Af (I (.build (cs := DP.cells ⟨Nn, none, 0⟩) underlying44 zeroValue44 Mo .nil kQ) (Be (.Bi sizeOf44 rfl (.t rfl) (.t rfl) (DP.one _) hS.b2 rfl) ?_)))))))))
  intro w7 Nw7
  replace hS := hS.Cp 2 rfl (show Set_ _ w7 _ (DP.cells ⟨Nn, none, 0⟩) _ from Nw7)
  refine Ay (Ay (Ai (Ak (Ap (Md rfl rfl rfl rfl isAgg44 sizeOf44 rfl hS.b2.agg ⟨_, rfl, ?_⟩)))))
  rw [kR hq1]
  exact ⟨_, rfl, ⟨none, 0, rfl, Sl.nil _ _ _⟩, hS.Cr⟩
 | some f =>
  refine Aa (I (.Gs isAgg50 sizeOf50 (hC.size) (.t rfl) (hS.b0.agg)) (I (.lb rfl (hS.b1.Ah rfl)) (A3 (eC (.u rfl rfl) (mL)) rfl (Lr bc b id _ (hC.up hS.Cr) oQ) ?_)))
  rintro _ w8 ⟨rfl, uw8⟩
  replace hS := hS.up uw8
  rw [hq1]
  refine Ab rfl (I (.xt rfl rfl) (I (.xt rfl rfl) (Al (.Bm zeroValue28) rfl ?_)))
  rintro _ w9 ⟨B7, rfl, MB7⟩
  refine Be (.Bi sizeOf28 rfl (.t rfl) (.t rfl) (Fact.one _) MB7.blk rfl) ?_
  intro w10 LB7
  have NB7 := MB7.set LB7
  replace hS := hS.Bn NB7
  refine LW.A rfl (Ao (Af (Ab rfl (I (.n1 rfl) (Ai (CW.f rfl (Aj (Ac (Af (I (.Gs isAgg50 sizeOf50 (hC.size) (.t rfl) (hS.b0.agg)) (I (.fB 11 rfl) (I (.lb rfl (hS.b3.Ah rfl)) (I (.fB 12 rfl) (I (.lb rfl (hS.b3.Ah rfl)) (I (.fB 14 rfl) (I (.lb rfl (hS.b3.Ah rfl)) (A3 (eC (.ct rfl (.ct rfl (.ct rfl (.cu rfl)))) (BZ)) rfl (Mx bc b f.Tool f.Chamber f.Recipe _ (hC.up hS.Cr) hlP hlR hlM hlT) ?_)))))))))))))))))
  rintro _ w11 ⟨v29, L, rfl, hLm, hT⟩
  replace hS := hS.join hT
  have hLl : L.length ≤ 400 := by have h1 := congrArg List.length hLm; rw [List.length_map, Jd] at h1; have h2 := G8 b f.Tool f.Chamber f.Recipe; omega
  obtain ⟨ad29, cp29, rfl, _⟩ := (hS.own 4 rfl).sl (fun _ => rfl)
  have hEL : Els w11 ad29 6 DP.cells L := (hS.own 4 rfl).els (fun _ => rfl)
  refine LW.A rfl (Ao (Aa (Ab rfl (I (.makeFunc (.cu rfl)) (A3 (eC (.u rfl rfl) (CM)) rfl (cP 121 #[.pointer (some ⟨B3, 0, none⟩)] (fun x => decide (x.dec.run = id)) CN ad29 cp29 L _ hEL oQ (fun W u x => kT x id B3 W (hS.b1.up u))) ?_)))))
  rintro _ w12 ⟨i, rfl, hi, uw12⟩
  replace hS := hS.up uw12
  refine LW.A rfl (Ao (Af (Ab rfl (I (.lss (.t rfl) (.const _)) (Ai (CW.b rfl (fun h34 => ?_) (fun h34 => ?_)))))))
  ·replace h34 := dQ h34
   refine Am ?_
   have hn := (hi.resolve_left (fun ⟨k, x, e, _⟩ => by omega)).2
   refine Aa (I (.build (cs := DP.cells ⟨Nn, none, 0⟩) underlying44 zeroValue44 Mo .nil kQ) (Be (.Bi sizeOf44 rfl (.t rfl) (.t rfl) (DP.one _) hS.b2 rfl) ?_))
   intro w13 Nw13
   replace hS := hS.Cp 2 rfl (show Set_ _ w13 _ (DP.cells ⟨Nn, none, 0⟩) _ from Nw13)
   refine Ay (Ay (Ai (Ak (Ap (Md rfl rfl rfl rfl isAgg44 sizeOf44 rfl hS.b2.agg ⟨_, rfl, ?_⟩)))))
   rw [uI hq1 hLm hn]
   exact ⟨_, rfl, ⟨none, 0, rfl, Sl.nil _ _ _⟩, hS.Cr⟩
  replace h34 := dQ h34
  refine Aj (Ac (Am ?_))
  obtain ⟨k, x, rfl, hx, hr, hn⟩ := hi.resolve_right (fun ⟨e, _⟩ => by omega)
  have hkl := (List.getElem?_eq_some_iff.1 hx).1
  refine Aa (I (.fB 16 rfl) (I (.lb rfl (hS.b3.Ah rfl)) (A3 (eC (.ct rfl (.cons (.const _) .nil)) (eN)) rfl (Ox f.Value 1000 _ (hV f (kS hq1)) cQ ⟨by decide, by decide⟩) ?_)))
  rintro _ w14 ⟨rfl, uw14⟩
  replace hS := hS.up uw14
  refine Ab rfl (I (.xt rfl rfl) (I (.xt rfl rfl) (Al (.Bm zeroValue39) rfl ?_)))
  rintro _ w15 ⟨B11, rfl, MB11⟩
  refine Be (.Bi sizeOf39 rfl (.t rfl) (.t rfl) (Rt.one _) MB11.blk rfl) ?_
  intro w16 LB11
  have NB11 := MB11.set LB11
  replace hS := hS.Bn NB11
  refine LW.A rfl (Ao ?_)
  obtain ⟨Bx, ox, ax, hcx⟩ := (show Els w16 ad29 6 DP.cells L from (hS.own 4 rfl).els (fun _ => rfl)) k x hx
  subst ax
  have hnB : Bx ≠ B4 := fun e => hS.ne (i := 2) (j := 4) cQ rfl rfl B4 rfl (by show some Bx = some B4; rw [e])
  cases hq9 : Oe f.Value 1000 with
  | true =>
   have h47 : decide ((La f.Value 1000).2 = 0) = true := by rw [Hy hq9]; rfl
   refine Zm 16 15 [.slice (some ⟨Bx, ox, none⟩) L.length cp29, vi (k : Int), .pointer (some ⟨Bx, ox + k * 6, none⟩), .agg x.cells, vi (La f.Value 1000).2, .bool true, .bool true, .agg (La f.Value 1000).1.cells, .slice (some ⟨Bx, ox, none⟩) L.length cp29, vi (k : Int), .pointer (some ⟨Bx, ox + k * 6, none⟩), .pointer (some ⟨Bx, ox + k * 6 + 1, none⟩), .agg x.dec.par.cells, .bool (Xs (La f.Value 1000).1 x.dec.par), .bool (true && Xs (La f.Value 1000).1 x.dec.par), undef] [14] ((· = B4)) (fun W => Blk W B4 (DP.cells ⟨Nn, none, 0⟩) 44) (fun W => Blk W B4 x.cells 44) kQ rfl kQ kQ kQ kQ kQ kQ kQ cQ ((hS.up (Up.drew _)).blk 2 rfl) (fun _ _ h u => h.up u) (fun _ _ h u => h.up u) ?_ ?_ kQ
   ·intro W hU0
    have hU := ((Up.drew w16).fr ((· = B4))).trans hU0
    have hcW : AggAt W Bx (ox + k * 6) x.cells := fun j v hv => Ws (hcx j v hv) hU hnB
    have hB11 : Blk W B11 (La f.Value 1000).1.cells 39 := (hS.blk 6 rfl).fr hU (fun e => hS.xS 2 6 cQ rfl rfl e.symm)
    refine aC ⟨fun _ => TW.p (PEv.mv rfl) rfl, fun e => absurd e cQ⟩ (aC ⟨fun _ => TW.p (PEv.mv rfl) rfl, fun e => absurd e cQ⟩ (aC ⟨fun _ => TW.p (PEv.Av underlying32 sizeOf44 (.t rfl) (.t rfl) hkl rfl) rfl, fun e => absurd e cQ⟩ (aC ⟨fun _ => TW.p (PEv.lc rfl (hcW)) rfl, fun e => absurd e cQ⟩ (aC ⟨fun _ => TW.p (PEv.mv rfl) rfl, fun e => absurd e cQ⟩ (aC ⟨fun _ => TW.p (PEv.tr (PEv.eql (.t rfl) (.const _)) h47) rfl, fun e => absurd e cQ⟩ (aC ⟨fun _ => TW.p (PEv.mv rfl) rfl, fun e => absurd e cQ⟩ (aC ⟨fun _ => TW.yp (PEv.lc rfl (hB11.agg)) rfl rfl rfl rfl rfl, fun e => absurd e cQ⟩ (aC ⟨fun _ => TW.yp (PEv.mv rfl) rfl rfl rfl rfl rfl, fun e => absurd e cQ⟩ (aC ⟨fun _ => TW.yp (PEv.mv rfl) rfl rfl rfl rfl rfl, fun e => absurd e cQ⟩ (aC ⟨fun _ => TW.yp (PEv.Av underlying32 sizeOf44 (.t rfl) (.t rfl) hkl rfl) rfl rfl rfl rfl rfl, fun e => absurd e cQ⟩ (aC ⟨fun _ => TW.yp (PEv.fB 1 rfl) rfl rfl rfl rfl rfl, fun e => absurd e cQ⟩ (aC ⟨fun _ => TW.yp (PEv.lc rfl (pF hcW)) rfl rfl rfl rfl rfl, fun e => absurd e cQ⟩ (aC ⟨fun _ => TW.yp (PEv.mF eqGuardType39 (Me _ _) (.t rfl) (.t rfl)) rfl rfl rfl rfl rfl, fun e => absurd e cQ⟩ (aC ⟨fun _ => TW.p (PEv.pa rfl (fun _ => .tmp rfl)) rfl, fun e => absurd e cQ⟩ (aC ⟨fun e => absurd rfl e, fun _ => ⟨fun hpre => SEv.mono (SEv.Bi sizeOf44 rfl (.t rfl) (.t rfl) (DP.one x) hpre rfl) (fun W2 N => ⟨N.sto.fr, N.blk⟩), rfl, rfl⟩⟩ ?_)))))))))))))))
    exact allL.nil
   intro w17 hU0 hP
   have hU := ((Up.drew w16).fr ((· = B4))).trans hU0
   replace hS := hS.step 2 rfl (A' := Cc B4 x.cells 44) hU hP (fun _ hi => .inl hi)
   change LW _ _ _ _ _ _ _ _ ((56, .eq (.bool (true && Xs (La f.Value 1000).1 x.dec.par))) :: _) _
   refine LW.A rfl (Ay (Ai (Ak (Md rfl rfl rfl rfl isAgg44 sizeOf44 rfl hS.b2.agg ⟨_, rfl, ?_⟩))))
   rw [V0 hq1 hLm hx hr hn, Hy hq9]
   exact ⟨_, rfl, ⟨x.ad, x.cp, rfl, I0 (hS.get 5 rfl) x (List.mem_of_getElem? hx)⟩, hS.Cr⟩
  | false =>
   have h47 : decide ((La f.Value 1000).2 = 0) = false := by rw [yB hq9]; rfl
   refine Zm 16 15 [.slice (some ⟨Bx, ox, none⟩) L.length cp29, vi (k : Int), .pointer (some ⟨Bx, ox + k * 6, none⟩), .agg x.cells, vi (La f.Value 1000).2, .bool false, .bool false, undef, undef, undef, undef, undef, undef, undef, .bool (false && false), undef] [14] ((· = B4)) (fun W => Blk W B4 (DP.cells ⟨Nn, none, 0⟩) 44) (fun W => Blk W B4 x.cells 44) kQ rfl kQ kQ kQ kQ kQ kQ kQ cQ ((hS.up (Up.drew _)).blk 2 rfl) (fun _ _ h u => h.up u) (fun _ _ h u => h.up u) ?_ ?_ kQ
   ·intro W hU0
    have hU := ((Up.drew w16).fr ((· = B4))).trans hU0
    have hcW : AggAt W Bx (ox + k * 6) x.cells := fun j v hv => Ws (hcx j v hv) hU hnB
    have hB11 : Blk W B11 (La f.Value 1000).1.cells 39 := (hS.blk 6 rfl).fr hU (fun e => hS.xS 2 6 cQ rfl rfl e.symm)
    refine aC ⟨fun _ => TW.p (PEv.mv rfl) rfl, fun e => absurd e cQ⟩ (aC ⟨fun _ => TW.p (PEv.mv rfl) rfl, fun e => absurd e cQ⟩ (aC ⟨fun _ => TW.p (PEv.Av underlying32 sizeOf44 (.t rfl) (.t rfl) hkl rfl) rfl, fun e => absurd e cQ⟩ (aC ⟨fun _ => TW.p (PEv.lc rfl (hcW)) rfl, fun e => absurd e cQ⟩ (aC ⟨fun _ => TW.p (PEv.mv rfl) rfl, fun e => absurd e cQ⟩ (aC ⟨fun _ => TW.p (PEv.fa (PEv.eql (.t rfl) (.const _)) h47) rfl, fun e => absurd e cQ⟩ (aC ⟨fun _ => TW.p (PEv.mv rfl) rfl, fun e => absurd e cQ⟩ (aC ⟨fun _ => TW.no rfl rfl rfl rfl rfl rfl, fun e => absurd e cQ⟩ (aC ⟨fun _ => TW.no rfl rfl rfl rfl rfl rfl, fun e => absurd e cQ⟩ (aC ⟨fun _ => TW.no rfl rfl rfl rfl rfl rfl, fun e => absurd e cQ⟩ (aC ⟨fun _ => TW.no rfl rfl rfl rfl rfl rfl, fun e => absurd e cQ⟩ (aC ⟨fun _ => TW.no rfl rfl rfl rfl rfl rfl, fun e => absurd e cQ⟩ (aC ⟨fun _ => TW.no rfl rfl rfl rfl rfl rfl, fun e => absurd e cQ⟩ (aC ⟨fun _ => TW.no rfl rfl rfl rfl rfl rfl, fun e => absurd e cQ⟩ (aC ⟨fun _ => TW.p (PEv.Ei (b := false) (.t rfl) (fun hp => absurd (show false = true from hp) cQ)) rfl, fun e => absurd e cQ⟩ (aC ⟨fun e => absurd rfl e, fun _ => ⟨fun hpre => SEv.mono (SEv.Bi sizeOf44 rfl (.t rfl) (.t rfl) (DP.one x) hpre rfl) (fun W2 N => ⟨N.sto.fr, N.blk⟩), rfl, rfl⟩⟩ ?_)))))))))))))))
    exact allL.nil
   intro w18 hU0 hP
   have hU := ((Up.drew w16).fr ((· = B4))).trans hU0
   replace hS := hS.step 2 rfl (A' := Cc B4 x.cells 44) hU hP (fun _ hi => .inl hi)
   change LW _ _ _ _ _ _ _ _ ((56, .eq (.bool (false && false))) :: _) _
   refine LW.A rfl (Ay (Ai (Ak (Md rfl rfl rfl rfl isAgg44 sizeOf44 rfl hS.b2.agg ⟨_, rfl, ?_⟩))))
   rw [V0 hq1 hLm hx hr hn, yB hq9]
   exact ⟨_, rfl, ⟨x.ad, x.cp, rfl, I0 (hS.get 5 rfl) x (List.mem_of_getElem? hx)⟩, hS.Cr⟩
end Go.Proofs.YtgjogglfnkgapaaGreatDoor
namespace Go.Wx
theorem pH {α : Type} {enc : α → Array Value} {e k : Nat} {w0 w : World} {v : Value} {xs : List α} {rest : List Asr} (h : Sep no w0 w (J e k enc v xs :: rest)) : OwnS w w0.heap.size e k enc v xs := (h.own 0 rfl).I9 (fun i hi => (h.foot 0 rfl i hi).resolve_left (fun h => h))
def wI (n : Int) : Int := IntKind.i64.wrap n
def H9 (y : I6) : Fact := { Ee with Version := wI (1 + A5 (wI (y.a.tdiv 5)) 3), Day := A5 y.b 10, Gone := decide (A5 (wI (y.b.tdiv 10)) 6 = 0), Time := A5 y.c 60 }
def BO (y : I6) : Fact := { H9 y with Kind := 1, ID := wI (1 + A5 y.d 9), Wafer := wI (1 + A5 y.e 4), Tool := wI ((A5 (wI (y.e.tdiv 4)) 8).tdiv 7), Chamber := wI ((A5 (wI (y.e.tdiv 32)) 6).tdiv 5), Recipe := wI (1 + wI ((A5 y.f 8).tdiv 7)), Revision := 1, Until := wI ((H9 y).Time + A5 (wI (y.f.tdiv 8)) 9), Value := wI (1000 * A5 (wI (y.f.tdiv 72)) 40) }
def BP (y : I6) : Fact := { H9 y with Kind := 2, ID := wI (1 + A5 y.d 9), Value := wI (A5 y.f 60 - 10) }
def BQ (y : I6) : Fact := { H9 y with Kind := 10, Recipe := wI (1 + wI ((A5 y.d 8).tdiv 7)), Value := A5 y.f 40 }
def BR (y : I6) : Fact := { H9 y with Kind := 9, ID := wI (1 + A5 y.d 9), Tool := wI ((A5 y.e 8).tdiv 7), Chamber := wI ((A5 (wI (y.e.tdiv 8)) 6).tdiv 5) }
def gN (y : I6) : Option Fact := if A5 y.a 5 = 0 ∨ A5 y.a 5 = 1 then some (BO y) else if A5 y.a 5 = 2 then some (BP y) else if A5 y.a 5 = 3 then some (BQ y) else if 0 < A5 y.f 3 then none else some (BR y)
theorem yC {y : I6} (h : A5 y.a 5 = 0 ∨ A5 y.a 5 = 1) : gN y = some (BO y) := if_pos h
theorem yD {y : I6} (h : A5 y.a 5 = 2) : gN y = some (BP y) := by unfold gN; rw [if_neg oQ, if_pos h]
theorem yE {y : I6} (h : A5 y.a 5 = 3) : gN y = some (BQ y) := by unfold gN; rw [if_neg oQ, if_neg oQ, if_pos h]
theorem yF {y : I6} (h0 : ¬ A5 y.a 5 = 0) (h1 : ¬ A5 y.a 5 = 1) (h2 : ¬ A5 y.a 5 = 2) (h3 : ¬ A5 y.a 5 = 3) (h : 0 < A5 y.f 3) : gN y = none := by unfold gN; rw [if_neg oQ, if_neg h2, if_neg h3, if_pos h]
theorem yG {y : I6} (h0 : ¬ A5 y.a 5 = 0) (h1 : ¬ A5 y.a 5 = 1) (h2 : ¬ A5 y.a 5 = 2) (h3 : ¬ A5 y.a 5 = 3) (h : ¬ 0 < A5 y.f 3) : gN y = some (BR y) := by unfold gN; rw [if_neg oQ, if_neg h2, if_neg h3, if_neg h]
def Kj (xs : List I6) : List Fact := (xs.take 30).filterMap gN
theorem Iu (xs : List I6) : (Kj xs).length ≤ 30 := by
 unfold Kj
 refine Nat.le_trans (List.length_filterMap_le _ _) ?_
 rw [List.length_take]; omega
theorem take_one {α : Type} {l : List α} {k : Nat} {x : α} (h : l[k]? = some x) : l.take (k + 1) = l.take k ++ [x] := by rw [List.take_add_one, h]; rfl
theorem Zo {xs : List I6} {k : Nat} {y : I6} (hy : xs[k]? = some y) (hk : k < 30) : Kj (xs.take (k + 1)) = Kj (xs.take k) ++ (gN y).toList := by
 unfold Kj
 rw [List.take_take, List.take_take, Nat.min_eq_right oQ, Nat.min_eq_right oQ, take_one hy, List.filterMap_append, List.filterMap_cons, List.filterMap_nil]
 cases gN y <;> rfl
theorem Jr {xs : List I6} {k : Nat} {y : I6} {f : Fact} (hy : xs[k]? = some y) (hk : k < 30) (h : gN y = some f) : Kj (xs.take (k + 1)) = Kj (xs.take k) ++ [f] := by rw [Zo hy hk, h]; rfl
theorem pI {xs : List I6} {k : Nat} {y : I6} (hy : xs[k]? = some y) (hk : k < 30) (h : gN y = none) : Kj (xs.take (k + 1)) = Kj (xs.take k) := by rw [Zo hy hk, h]; simp
theorem uJ {xs : List I6} {k : Nat} (h : ¬ (k < xs.length ∧ k < 30)) : Kj (xs.take k) = Kj xs := by
 unfold Kj
 rw [List.take_take]
 congr 1
 by_cases h1 : k < 30
 · rw [Nat.min_eq_right oQ, List.take_of_length_le oQ, List.take_of_length_le (by omega)]
 rw [Nat.min_eq_left (by omega)]
def Ie (a b : Dec) : Bool := decide (a.run = b.run) && Xs a.par b.par && Xs a.est b.est && decide (a.uses = b.uses)
theorem Pw (a b : Dec) : Ie a b = true ↔ a = b := by
 obtain ⟨a1, a2, a3, a4⟩ := a
 obtain ⟨b1, b2, b3, b4⟩ := b
 unfold Ie
 simp only [Bool.and_eq_true, decide_eq_true_eq, gM, Dec.mk.injEq, and_assoc]
theorem cR (a : Dec) : Ie a a = true := (Pw a a).2 rfl
def Je : List Dec → List Dec → Bool
 | [], [] => true
 | a :: l, b :: m => Ie a b && Je l m
 | _, _ => false
theorem Ql : ∀ l : List Dec, Je l l = true
 | [] => rfl
 | a :: l => by unfold Je; rw [cR, Ql l]; rfl
theorem kU {l m : List Int} {k : Nat} {x y : Int} (hx : l[k]? = some x) (hy : m[k]? = some y) (h : l.take k = m.take k) (e : x = y) : l.take (k + 1) = m.take (k + 1) := by
 rw [take_one hx, take_one hy, h, e]
theorem uK {a b : Dec} (h : (!decide (a.run = b.run) || !Xs a.par b.par || !Xs a.est b.est || !decide ((a.uses.length : Int) = (b.uses.length : Int))) = true) : Ie a b = false := by
 cases hs : Ie a b with
 | false => rfl
 | true =>
   have e := (Pw a b).1 hs
   subst e
   simp [Zl] at h
theorem pJ {a b : Dec} {k : Nat} {x y : Int} (hx : a.uses[k]? = some x) (hy : b.uses[k]? = some y) (h : x ≠ y) : Ie a b = false := by
 cases hs : Ie a b with
 | false => rfl
 | true =>
   have e := (Pw a b).1 hs
   subst e
   rw [hx] at hy
   exact absurd (Option.some.inj hy) h
theorem pK {a b : Dec} (h : (!decide (a.run = b.run) || !Xs a.par b.par || !Xs a.est b.est || !decide ((a.uses.length : Int) = (b.uses.length : Int))) = false) (hu : a.uses = b.uses) : Ie a b = true := by
 simp only [Bool.or_eq_false_iff, Bool.not_eq_false'] at h
 unfold Ie
 rw [h.1.1.1, h.1.1.2, h.1.2, hu, decide_eq_true rfl]; rfl
theorem Ti : ∀ {l m : List Dec}, l.length ≠ m.length → Je l m = false
 | [], [], h => absurd rfl h
 | [], _ :: _, _ => rfl
 | _ :: _, [], _ => rfl
 | a :: l, b :: m, h => by unfold Je; rw [Ti (fun e => h (by simp [e])), Bool.and_false]
theorem Qm {l m : List Dec} {k : Nat} {x y : Dec} (hx : l[k]? = some x) (hy : m[k]? = some y) : Je (l.drop k) (m.drop k) = (Ie x y && Je (l.drop (k + 1)) (m.drop (k + 1))) := by
 have h1 := (List.getElem?_eq_some_iff.1 hx)
 have h2 := (List.getElem?_eq_some_iff.1 hy)
 rw [List.drop_eq_getElem_cons h1.1, List.drop_eq_getElem_cons h2.1, h1.2, h2.2]; rfl
theorem cU {l m : List Dec} {k : Nat} (h1 : l.length ≤ k) (h2 : m.length ≤ k) : Je (l.drop k) (m.drop k) = true := by
 rw [List.drop_eq_nil_of_le h1, List.drop_eq_nil_of_le h2]; rfl
theorem yH {L : List DP} {Ds : List Dec} {k : Nat} {p : DP} (hm : L.map DP.dec = Ds) (h : L[k]? = some p) : Ds[k]? = some p.dec := by rw [← hm, List.getElem?_map, h]; rfl
theorem gO {w : World} {B o : Nat} {p : DP} (h : AggAt w B o p.cells) : w.cell? ⟨B, o + 5, none⟩ = some p.uv := h 5 _ rfl
theorem Px {w : World} {B o : Nat} {p : DP} (h : AggAt w B o p.cells) : w.cell? ⟨B, o, none⟩ = some (vi p.dec.run) := h 0 _ rfl
theorem Tj {w : World} {B o : Nat} {p : DP} (h : AggAt w B o p.cells) : AggAt w B (o + 3) p.dec.est.cells := fun j v hv => by
 have h2 : p.cells[3 + j]? = some v := by
   match j with
   | 0 => simpa [Rt.cells, DP.cells, DecV.cells, Dec.v] using hv
   | 1 => simpa [Rt.cells, DP.cells, DecV.cells, Dec.v] using hv
   | j + 2 => simp [Rt.cells] at hv
 have := h (3 + j) v h2
 rwa [show o + (3 + j) = o + 3 + j by omega] at this
theorem gP {w : World} {B : Nat} {p : DP} {T : TypeId} (h : Blk w B p.cells T) : AggAt w B 1 p.dec.par.cells := by have := pF h.agg; rwa [Nat.zero_add] at this
theorem gQ {w : World} {B : Nat} {p : DP} {T : TypeId} (h : Blk w B p.cells T) : AggAt w B 3 p.dec.est.cells := by have := Tj h.agg; rwa [Nat.zero_add] at this
theorem Dc {l : List Fact} {d : Int} {j : Nat} (hj : j < 11) {x : Fact} : x ∈ Ef (D5 l d) j ↔ Mw l d x ∧ x.Gone = false ∧ x.Kind = ((j + 1 : Nat) : Int) := by
 rw [Re l d hj]
 unfold Ed
 rw [if_pos (List.mem_singleton.2 rfl), (Em _).same.mem, List.mem_filter, Lo]
 simp
theorem C1 {l : List Fact} {d : Int} {x : Fact} (h : Mw l d x) : Bk x = true := Gp h.2.1
theorem Mf {l : List Fact} {d : Int} {x y : Fact} (hx : Mw l d x) (hy : Mw l d y) (e : A7 x = A7 y) : x = y := Nk (C1 hx) (C1 hy) e (hy.2.2.2 x hx.1 hx.2.2.1) (hx.2.2.2 y hy.1 hy.2.2.1)
theorem Kg (l : List Fact) (d : Int) {j : Nat} (hj : j < 11) : (Ef (D5 l d) j).Nodup := by
 rw [Re l d hj]
 unfold Ed
 rw [if_pos (List.mem_singleton.2 rfl)]
 exact ((Em _).same.perm.nodup_iff).2 ((K4 l d).filter _)
theorem V1 {α : Type} {key : α → K2} {A B : List α} (hA : Iv key A) (hB : Iv key B) (hp : A.Perm B) (hd : ∀ x ∈ A, ∀ y ∈ A, key x = key y → x = y) : A = B := by
 rw [(StS.refl hA).eq, (StS.refl hB).eq]
 exact S6 hp hd
theorem Rg (l : List Fact) (d : Int) {j : Nat} (hj : j < 11) : Iv (J8 ((j + 1 : Nat) : Int)) (Ef (D5 l d) j) := by
 rw [Re l d hj]; unfold Ed; rw [if_pos (List.mem_singleton.2 rfl)]; exact (Em _).ord
theorem pL {l m : List Fact} {d : Int} {j : Nat} (hj : j < 11) (h : ∀ x, Mw l d x ∧ x.Kind = ((j + 1 : Nat) : Int) ↔ Mw m d x ∧ x.Kind = ((j + 1 : Nat) : Int)) : Ef (D5 l d) j = Ef (D5 m d) j := by
 refine V1 (Rg _ d hj) (Rg _ d hj) (H2 (Kg _ d hj) (Kg _ d hj) fun x => ?_) fun x hx y hy e => ?_
 · rw [Dc hj, Dc hj]
   have := h x
   exact ⟨fun ⟨a, b, c⟩ => ⟨(this.1 ⟨a, c⟩).1, b, c⟩, fun ⟨a, b, c⟩ => ⟨(this.2 ⟨a, c⟩).1, b, c⟩⟩
 have hx := (Dc hj).1 hx
 have hy := (Dc hj).1 hy
 exact Mf hx.1 hy.1 (Gq (C1 hx.1) (C1 hy.1) hx.2.2 hy.2.2 e)
theorem V3 (b : Base) (t c r : Int) : ∀ D ∈ Fj b t c r, D.uses.length ≤ (Ey b t c r).length := fun D hD => by
 unfold Fj at hD
 obtain ⟨i, hi, rfl⟩ := List.mem_map.1 hD
 have hi := List.mem_range.1 hi
 obtain ⟨x, hx⟩ := Au hi
 rw [Jc hx]
 refine Nat.le_trans (kP b t c r x.Time _) ?_
 rw [List.length_take]; omega
def pM (n : Nat) (b : Base) : Prop := ∀ j, (Ef b j).length ≤ n
theorem K5 {l : List Fact} {n : Nat} (h : l.length ≤ n) (d : Int) : pM n (D5 l d) := fun j => by
 by_cases hj : j < 11
 · rw [Re l d hj]
   exact Nat.le_trans (Rc _ _ _) (Nat.le_trans (cC l d) h)
 rw [Pt _ hj]; simp
theorem Xl {α : Type} {key : α → K2} (p : α → Bool) (l : List α) : (Jb key l).filter p = Jb key (l.filter p) :=
 StS.unique ⟨(Em l).ord.sublist List.filter_sublist, fun k => by
   rw [List.filter_filter, List.filter_filter]
   have h := (Em (key := key) l).same k
   rw [show (fun x => (key x == k) && p x) = fun x => p x && (key x == k) from funext fun x => Bool.and_comm _ _, ← List.filter_filter, ← List.filter_filter, h]⟩ (Em _)
theorem Hm (b : Base) (t c r : Int) : Ey b t c r = Jb runK ((b.Processes.filter (Lm t c)).filter fun x => decide (x.Recipe = r)) := by unfold Ey S9; rw [Xl]
theorem Mg {b : Base} {t c r : Int} {x : Fact} : x ∈ Ey b t c r ↔ x ∈ b.Processes ∧ x.Tool = t ∧ x.Chamber = c ∧ x.Recipe = r := by
 rw [Hm, (Em _).same.mem, List.mem_filter, List.mem_filter]
 unfold Lm
 simp only [Bool.and_eq_true, decide_eq_true_eq]
 exact ⟨fun ⟨⟨a, b, c⟩, d⟩ => ⟨a, b, c, d⟩, fun ⟨a, b, c, d⟩ => ⟨⟨a, b, c⟩, d⟩⟩
theorem uL (b : Base) (t c r : Int) : Iv runK (Ey b t c r) := by rw [Hm]; exact (Em _).ord
theorem V4 {b : Base} {t c r : Int} (h : b.Processes.Nodup) : (Ey b t c r).Nodup := by
 rw [Hm, (Em _).same.perm.nodup_iff]
 exact (h.filter _).filter _
theorem pN {l : List Fact} (h : Iv runK l) {i j : Nat} {x y : Fact} (hij : i < j) (hx : l[i]? = some x) (hy : l[j]? = some y) : x.Time ≤ y.Time := by
 have h1 := F7 h hij hx hy
 have h2 := Kt.1 h1
 simp only [runK] at h2
 omega
theorem No {M T M' T' : List Fact} {r t : Int} : ∀ {l : List Fact}, (∀ x ∈ l, Fb M T r x t = Fb M' T' r x t) → ∀ s, l.foldl (Cq M T r t) s = l.foldl (Cq M' T' r t) s
 | [], _, _ => rfl
 | x :: l, h, s => by
   rw [List.foldl_cons, List.foldl_cons, No (fun y hy => h y (List.mem_cons_of_mem _ hy))]
   congr 1
   unfold Cq
   rw [h x List.mem_cons_self]
theorem Py : ∀ {rs a : List Fact} {x : Fact}, x ∈ Dl rs a ↔ x ∈ a ∧ ∀ y ∈ rs, y.Time ≤ x.Time
 | [], a, x => by simp [Dl]
 | y :: rs, a, x => by
   have e : Dl (y :: rs) a = Dl rs (a.filter fun x => decide (y.Time ≤ x.Time)) := rfl
   rw [e, Py, List.mem_filter]
   simp only [decide_eq_true_eq, List.forall_mem_cons]
   exact ⟨fun ⟨⟨a, b⟩, c⟩ => ⟨a, b, c⟩, fun ⟨a, b, c⟩ => ⟨⟨a, b⟩, c⟩⟩
theorem Oz : ∀ (rs a : List Fact), Dl rs a = a.filter fun x => rs.all fun y => decide (y.Time ≤ x.Time)
 | [], a => (List.filter_eq_self.2 fun _ _ => rfl).symm
 | y :: rs, a => by
   have e : Dl (y :: rs) a = Dl rs (a.filter fun x => decide (y.Time ≤ x.Time)) := rfl
   rw [e, Oz rs, List.filter_filter]
   congr 1
   funext x
   rw [List.all_cons, Bool.and_comm]
theorem cV {b b' : Base} {t c r time : Int} {a : List Fact} (hR : Gh b t c time = Gh b' t c time) (hT : ∀ tm, Fa b.Targets r tm = Fa b'.Targets r tm) (hM : ∀ x ∈ a, (b.Measures.find? fun y => decide (y.ID = x.ID)) = (b'.Measures.find? fun y => decide (y.ID = x.ID))) : F2 b t c r time a = F2 b' t c r time a := by
 have hd : ∀ x ∈ Dl (Gh b' t c time) a, Fb b.Measures b.Targets r x time = Fb b'.Measures b'.Targets r x time := fun x hx => by
   unfold Fb
   rw [hM x (Py.1 hx).1, hT]
 have hs : Ji b.Measures b.Targets r time (Dl (Gh b' t c time) a) = Ji b'.Measures b'.Targets r time (Dl (Gh b' t c time) a) := No hd _
 unfold F2
 rw [hR, hT, hs]
theorem cW {b b' : Base} {t c r : Int} (hP : Ey b t c r = Ey b' t c r) (hR : ∀ time, Gh b t c time = Gh b' t c time) (hT : ∀ tm, Fa b.Targets r tm = Fa b'.Targets r tm) (hM : ∀ x ∈ Ey b t c r, (b.Measures.find? fun y => decide (y.ID = x.ID)) = (b'.Measures.find? fun y => decide (y.ID = x.ID))) : Fj b t c r = Fj b' t c r := by
 unfold Fj
 rw [← hP]
 refine List.map_congr_left fun i hi => ?_
 have hi := List.mem_range.1 hi
 obtain ⟨x, hx⟩ := Au hi
 rw [Jc hx, Jc hx, cV (hR _) hT (fun y hy => hM y (List.mem_of_mem_take hy))]
theorem Np (r t : Int) : ∀ (l : List Fact) (s : Fact × Bool), (l.filter fun x => decide (x.Recipe = r)).foldl (Ps r t) s = l.foldl (Ps r t) s
 | [], _ => rfl
 | x :: l, s => by
   rw [List.foldl_cons]
   by_cases h : x.Recipe = r
   · rw [List.filter_cons_of_pos (by simpa using h), List.foldl_cons]
     exact Np r t l _
   rw [List.filter_cons_of_neg (by simpa using h), xY (by simp [h])]
   exact Np r t l _
theorem Zp (T : List Fact) (r t : Int) : Fa (T.filter fun x => decide (x.Recipe = r)) r t = Fa T r t := by
 have h : W9 r t (T.filter fun x => decide (x.Recipe = r)) = W9 r t T := Np r t T _
 unfold Fa
 rw [h]
structure KnB (b : Base) : Prop where
 sh : pM 100 b
 nd : b.Processes.Nodup
 uid : ∀ f ∈ b.Processes, ∀ g ∈ b.Processes, f.ID = g.ID → f = g
theorem HT {l : List Fact} (h : l.length ≤ 100) (d : Int) : KnB (D5 l d) := by
 refine ⟨K5 h d, Kg l d (j := 0) cQ, fun f hf g hg e => ?_⟩
 have h1 := (Dc (j := 0) cQ).1 hf
 have h2 := (Dc (j := 0) cQ).1 hg
 exact Mf h1.1 h2.1 (Gq (k := 1) (C1 h1.1) (C1 h2.1) h1.2.2 h2.2.2 (by show (f.ID, (0 : Int)) = (g.ID, 0); rw [e]))
theorem KnB.find {b : Base} (h : KnB b) {f : Fact} (hf : f ∈ b.Processes) : Eo b f.ID = some f := by
 unfold Eo
 cases e : b.Processes.find? fun x => decide (x.ID = f.ID) with
 | none => exact absurd (List.find?_eq_none.1 e f hf) (by simp)
 | some g =>
   have h1 := List.find?_some e
   exact congrArg some (h.uid g (List.mem_of_find?_eq_some e) f hf (of_decide_eq_true h1))
def p3 (t c r : Int) (f : Fact) : Bool := decide (f.Tool = t) && decide (f.Chamber = c) && decide (f.Recipe = r)
def BS (P : List Fact) (id : Int) : Bool := (P.find? fun x => decide (x.ID = id)).isSome
def pO (b : Base) (t c r : Int) : Base := ⟨b.Processes.filter (p3 t c r), b.Measures.filter fun m => BS (b.Processes.filter (p3 t c r)) m.ID, [], [], [], [], [], [], b.Resets.filter (Lm t c), b.Targets.filter fun f => decide (f.Recipe = r), []⟩
theorem V5 {p : Fact → Bool} {id : Int} : ∀ {l : List Fact}, (∀ f ∈ l, f.ID = id → p f = true) → (l.filter p).find? (fun y => decide (y.ID = id)) = l.find? fun y => decide (y.ID = id)
 | [], _ => rfl
 | x :: l, h => by
   have ih := V5 (p := p) (id := id) (l := l) fun f hf => h f (List.mem_cons_of_mem _ hf)
   by_cases hx : x.ID = id
   · rw [List.filter_cons_of_pos (h x List.mem_cons_self hx), List.find?_cons_of_pos (by simpa using hx), List.find?_cons_of_pos (by simpa using hx)]
   rw [List.find?_cons_of_neg (by simpa using hx)]
   by_cases hp : p x = true
   · rw [List.filter_cons_of_pos hp, List.find?_cons_of_neg (by simpa using hx)]; exact ih
   rw [List.filter_cons_of_neg hp]; exact ih
theorem uN {P : List Fact} {x : Fact} (h : x ∈ P) : BS P x.ID = true := by
 unfold BS
 rw [List.find?_isSome]
 exact ⟨x, h, by simp⟩
theorem V6 (b : Base) (t c r : Int) : Fj (pO b t c r) t c r = Fj b t c r := by
 symm
 refine cW ?_ (fun time => ?_) (fun tm => ?_) (fun x hx => ?_)
 · rw [Hm, Hm]
   congr 1
   show (b.Processes.filter _).filter _ = ((b.Processes.filter _).filter _).filter _
   rw [List.filter_filter, List.filter_filter, List.filter_filter]
   congr 1
   funext x
   unfold Lm p3
   cases decide (x.Tool = t) <;> cases decide (x.Chamber = c) <;> cases decide (x.Recipe = r) <;> rfl
 · show b.Resets.filter _ = (b.Resets.filter _).filter _
   rw [List.filter_filter]
   congr 1
   funext x
   unfold Lm gI
   cases decide (x.Tool = t) <;> cases decide (x.Chamber = c) <;> cases decide (x.Time ≤ time) <;> rfl
 · exact (Zp _ _ _).symm
 refine (V5 fun f hf e => ?_).symm
 have hm := Mg.1 hx
 rw [e]
 exact uN (List.mem_filter.2 ⟨hm.1, by unfold p3; simp [hm.2.1, hm.2.2.1, hm.2.2.2]⟩)
theorem gR (M T : List Fact) (r t : Int) : ∀ (l : List Fact) (s : Int × List Int), ∀ u ∈ (l.foldl (Cq M T r t) s).2, u ∈ s.2 ∨ ∃ x ∈ l, u = x.ID
 | [], _, u, h => .inl h
 | x :: l, s, u, h => by
   rw [List.foldl_cons] at h
   rcases gR M T r t l _ u h with h | ⟨y, hy, e⟩
   · unfold Cq at h
     split at h
     · rcases List.mem_append.1 h with h | h
       · exact .inl h
       exact .inr ⟨x, List.mem_cons_self, List.mem_singleton.1 h⟩
     exact .inl h
   exact .inr ⟨y, List.mem_cons_of_mem _ hy, e⟩
theorem pP (M T : List Fact) (r t : Int) : ∀ (l : List Fact) (s : Int × List Int), ∃ k : List Fact, k.Sublist l ∧ (l.foldl (Cq M T r t) s).2 = s.2 ++ k.map (·.ID)
 | [], s => ⟨[], List.Sublist.slnil, by simp⟩
 | x :: l, s => by
   rw [List.foldl_cons]
   obtain ⟨k, h1, h2⟩ := pP M T r t l (Cq M T r t s x)
   by_cases h : Hk (Fb M T r x t) = true
   · rw [Is h] at h2
     exact ⟨x :: k, h1.cons_cons x, by rw [Is h, h2]; simp⟩
   rw [Lq (by simpa using h)] at h2
   exact ⟨k, h1.cons x, by rw [Lq (by simpa using h), h2]⟩
theorem JU (e : Int) : (Bu e 4).d = 1 ∨ (Bu e 4).d = 2 ∨ (Bu e 4).d = 4 := by
 have h1 : (Bu e 4).d = ((4 / Dr e 4 : Nat) : Int) := rfl
 have h2 : Dr e 4 ∣ 4 := Nat.gcd_dvd_right _ _
 have h3 := Nat.le_of_dvd cQ h2
 have h4 : 0 < Dr e 4 := Lg cQ
 rw [h1]
 generalize Dr e 4 = g at *
 have : g = 1 ∨ g = 2 ∨ g = 3 ∨ g = 4 := by omega
 rcases this with rfl | rfl | rfl | rfl
 · exact .inr (.inr rfl)
 · exact .inr (.inl rfl)
 · revert h2; decide
 exact .inl rfl
theorem pQ {k : Int} (h : 1 ≤ k ∧ k ≤ 11) : ∀ x ∈ Ep k, x ∈ fieldsOf k := by
 have hc : k = 1 ∨ k = 2 ∨ k = 3 ∨ k = 4 ∨ k = 5 ∨ k = 6 ∨ k = 7 ∨ k = 8 ∨ k = 9 ∨ k = 10 ∨ k = 11 := by omega
 rcases hc with rfl | rfl | rfl | rfl | rfl | rfl | rfl | rfl | rfl | rfl | rfl <;>
   simp [Ep, fieldsOf, Pn, Lh, Cv, Cl, H7]
theorem gS {f : Fact} (hf : Bk f = true) : ∀ x ∈ Oj f, M6 x := fun x hx => by
 have hk := Es hf
 unfold Oj at hx
 rcases List.mem_cons.1 hx with rfl | hx
 · exact ⟨by omega, by omega⟩
 obtain ⟨y, hy, rfl⟩ := List.mem_map.1 hx
 exact (H3 hf).2.1 y (pQ hk y hy)
theorem Tk {f g : Fact} (hf : Bk f = true) (hg : Bk g = true) (h : A7 f = A7 g) : f.Kind = g.Kind ∧ Er (Ep f.Kind) f = Er (Ep f.Kind) g := by
 have hk := Tc hf hg h
 unfold A7 at h
 rw [if_pos hf, if_pos hg] at h
 have e := (Pg (r := []) (s := []) (gS hf) (gS hg) (by unfold Oj; simp [Er, hk]) (by rw [h])).1
 unfold Oj at e
 rw [← hk] at e
 exact ⟨hk, (List.cons.inj e).2⟩
def notM (id : Int) (f : Fact) : Bool := !decide (f.Kind = 2) || !decide (f.ID = id)
theorem JV {f g : Fact} (hf : Bk f = true) (hg : Bk g = true) (hk : g.Kind = 2) (h : A7 f = A7 g) : f.Kind = 2 ∧ f.ID = g.ID := by
 have e := Tk hf hg h
 have hk2 := e.1.trans hk
 have e2 := e.2
 rw [hk2] at e2
 replace e2 : [f.ID] = [g.ID] := e2
 exact ⟨hk2, by simpa using e2⟩
theorem uO {L : List Fact} {m : Fact} {d : Int} (hv : Bk m = true) (hd : m.Day ≤ d) (hn : ∀ g ∈ L, Bk g = true → A7 g ≠ A7 m) (x : Fact) : Mw (L ++ [m]) d x ↔ x = m ∨ Mw L d x := by
 have pm : ∀ g ∈ L, Dp g m = false ∧ Dp m g = false := fun g hg => by
   constructor
   · rw [Bool.eq_false_iff]; intro h; have h := E5.1 h; exact hn g hg h.1 h.2.2.1
   rw [Bool.eq_false_iff]; intro h; have h := E5.1 h; exact hn g hg h.2.1 h.2.2.1.symm
 constructor
 · rintro ⟨h1, h2, h3, h4⟩
   rcases List.mem_append.1 h1 with h1 | h1
   · exact .inr ⟨h1, h2, h3, fun g hg => h4 g (List.mem_append_left _ hg)⟩
   exact .inl (List.mem_singleton.1 h1)
 rintro (rfl | ⟨h1, h2, h3, h4⟩)
 · refine ⟨List.mem_append_right _ (List.mem_singleton.2 rfl), by unfold A7; rw [if_pos hv]; exact Q8 hv, hd, fun g hg _ => ?_⟩
   rcases List.mem_append.1 hg with hg | hg
   · exact (pm g hg).1
   cases List.mem_singleton.1 hg; exact Ln _
 refine ⟨List.mem_append_left _ h1, h2, h3, fun g hg hgd => ?_⟩
 rcases List.mem_append.1 hg with hg | hg
 · exact h4 g hg hgd
 cases List.mem_singleton.1 hg; exact (pm x h1).2
theorem kV {l : List Fact} {d : Int} {x : Fact} (h : x ∈ (D5 l d).Measures) : (D5 l d).Measures.find? (fun y => decide (y.ID = x.ID)) = some x := by
 cases e : (D5 l d).Measures.find? fun y => decide (y.ID = x.ID) with
 | none => exact absurd (List.find?_eq_none.1 e x h) (by simp)
 | some g =>
   have h1 : g ∈ Ef (D5 l d) 1 := List.mem_of_find?_eq_some e
   have h2 := List.find?_some e
   replace h2 := of_decide_eq_true h2
   have hg := (Dc (j := 1) cQ).1 h1
   have hx := (Dc (j := 1) cQ).1 (show x ∈ Ef (D5 l d) 1 from h)
   exact congrArg some (Mf hg.1 hx.1 (Gq (k := 2) (C1 hg.1) (C1 hx.1) hg.2.2 hx.2.2 (by show (g.ID, (0 : Int)) = (x.ID, 0); rw [h2])))
theorem Pz {l : List Fact} {d : Int} {i : Int} {x : Fact} : (D5 l d).Measures.find? (fun y => decide (y.ID = i)) = some x ↔ x ∈ (D5 l d).Measures ∧ x.ID = i := by
 constructor
 · intro e
   have h2 := List.find?_some e
   exact ⟨List.mem_of_find?_eq_some e, of_decide_eq_true h2⟩
 rintro ⟨h, rfl⟩
 exact kV h
structure LateB (b c : Base) (m : Fact) : Prop where
 P : c.Processes = b.Processes
 R : c.Resets = b.Resets
 T : c.Targets = b.Targets
 no : (b.Measures.find? fun y => decide (y.ID = m.ID)) = none
 yes : (c.Measures.find? fun y => decide (y.ID = m.ID)) = some m
 rest : ∀ i, i ≠ m.ID → (c.Measures.find? fun y => decide (y.ID = i)) = (b.Measures.find? fun y => decide (y.ID = i))
theorem Hn (M T : List Fact) (r t : Int) : ∀ (l : List Fact) (s : Int × List Int), l.foldl (Cq M T r t) s = (s.1 + (Ji M T r t l).1, s.2 ++ (Ji M T r t l).2)
 | [], s => by show s = (s.1 + 0, s.2 ++ []); rw [Int.add_zero, List.append_nil]
 | x :: l, s => by
   unfold Ji
   rw [List.foldl_cons, List.foldl_cons, Hn M T r t l, Hn M T r t l (Cq M T r t (0, []) x)]
   by_cases h : Hk (Fb M T r x t) = true
   · rw [Is h, Is h]; dsimp only; rw [List.append_assoc, List.nil_append, Int.zero_add, Int.add_assoc]
   rw [Lq (by simpa using h), Lq (by simpa using h)]; dsimp only; rw [List.nil_append, Int.zero_add]
theorem Zq {b c : Base} {m : Fact} (h : LateB b c m) (r : Int) (x : Fact) (t : Int) (hx : x.ID ≠ m.ID) : Fb c.Measures c.Targets r x t = Fb b.Measures b.Targets r x t := by
 unfold Fb
 rw [h.rest _ hx, h.T]
theorem kW {b c : Base} {m : Fact} (h : LateB b c m) (r : Int) (x : Fact) (t : Int) (hx : x.ID = m.ID) : Fb b.Measures b.Targets r x t = (0, false) := Rf (by rw [hx, h.no]; rfl)
theorem Zr {b c : Base} {m : Fact} (h : LateB b c m) (r t : Int) : ∀ (l : List Fact) (s : Int × List Int), (∀ x ∈ l, x.ID = m.ID → ∀ y ∈ l, y.ID = m.ID → x = y) → l.Nodup → m.ID ∉ s.2 →
   (l.foldl (Cq c.Measures c.Targets r t) s = l.foldl (Cq b.Measures b.Targets r t) s ∧ m.ID ∉ (l.foldl (Cq b.Measures b.Targets r t) s).2) ∨
   ∃ x ∈ l, x.ID = m.ID ∧ Hk (Fb c.Measures c.Targets r x t) = true ∧ (l.foldl (Cq c.Measures c.Targets r t) s).1 = (l.foldl (Cq b.Measures b.Targets r t) s).1 + (Fb c.Measures c.Targets r x t).1 ∧ (l.foldl (Cq c.Measures c.Targets r t) s).2.length = (l.foldl (Cq b.Measures b.Targets r t) s).2.length + 1 ∧ m.ID ∈ (l.foldl (Cq c.Measures c.Targets r t) s).2
 | [], s, _, _, hs => .inl ⟨rfl, hs⟩
 | x :: l, s, hu, hd, hs => by
   rw [List.foldl_cons, List.foldl_cons]
   have hu' : ∀ x ∈ l, x.ID = m.ID → ∀ y ∈ l, y.ID = m.ID → x = y := fun a ha e b hb e2 => hu a (List.mem_cons_of_mem _ ha) e b (List.mem_cons_of_mem _ hb) e2
   by_cases hx : x.ID = m.ID
   · have e0 : Cq b.Measures b.Targets r t s x = s := Lq (by rw [kW h r x t hx]; rfl)
     rw [e0]
     have hrest : ∀ y ∈ l, y.ID ≠ m.ID := fun y hy e => by
       have := hu x List.mem_cons_self hx y (List.mem_cons_of_mem _ hy) e
       exact (List.nodup_cons.1 hd).1 (this ▸ hy)
     have hc : ∀ s, l.foldl (Cq c.Measures c.Targets r t) s = l.foldl (Cq b.Measures b.Targets r t) s := fun s => No (fun y hy => Zq h r y t (hrest y hy)) s
     have hb : m.ID ∉ (l.foldl (Cq b.Measures b.Targets r t) s).2 := fun hm => by
       rcases gR _ _ _ _ l s _ hm with h1 | ⟨y, hy, e⟩
       · exact hs h1
       exact hrest y hy e.symm
     by_cases hcl : Hk (Fb c.Measures c.Targets r x t) = true
     · refine .inr ⟨x, List.mem_cons_self, hx, hcl, ?_, ?_, ?_⟩
       · rw [hc, Is hcl, Hn]
         rw [Hn _ _ _ _ l s]; dsimp only; omega
       · rw [hc, Is hcl, Hn, Hn _ _ _ _ l s]; simp [List.length_append]; omega
       rw [hc, Is hcl, Hn]
       simp [hx]
     refine .inl ⟨by rw [Lq (by simpa using hcl)]; exact hc s, hb⟩
   have e1 : Cq c.Measures c.Targets r t s x = Cq b.Measures b.Targets r t s x := by unfold Cq; rw [Zq h r x t hx]
   rw [e1]
   have hs' : m.ID ∉ (Cq b.Measures b.Targets r t s x).2 := by
     unfold Cq
     split
     · intro hm
       rcases List.mem_append.1 hm with hm | hm
       · exact hs hm
       exact hx (List.mem_singleton.1 hm).symm
     exact hs
   rcases Zr h r t l _ hu' (List.nodup_cons.1 hd).2 hs' with h1 | ⟨y, hy, h1⟩
   · exact .inl h1
   exact .inr ⟨y, List.mem_cons_of_mem _ hy, h1⟩
theorem Zt {b c : Base} {m : Fact} (h : LateB b c m) (t ch r : Int) : Ey c t ch r = Ey b t ch r := by
 rw [Hm, Hm, h.P]
theorem O0 {b c : Base} {m : Fact} (h : LateB b c m) (t ch time : Int) : Gh c t ch time = Gh b t ch time := by
 unfold Gh; rw [h.R]
structure LateD (b c : Base) (m : Fact) (r : Int) (D D' : Dec) (p x : Fact) (E : Int) : Prop where
 id : x.ID = m.ID
 mem : x ∈ b.Processes
 time : m.Time ≤ p.Time
 le : x.Time ≤ p.Time
 ne : p.ID ≠ m.ID
 bd : (E + (m.Value - Fa c.Targets r x.Time)).natAbs ≤ 1000000000
 bd1 : (m.Value - Fa c.Targets r x.Time).natAbs ≤ 1000000000
 bd2 : E.natAbs ≤ 1000000000
 est : D.est = Bu E 4
 est' : D'.est = Bu (E + (m.Value - Fa c.Targets r x.Time)) 4
 len : D'.uses.length = D.uses.length + 1
 use : m.ID ∈ D'.uses
 nz : m.Value - Fa c.Targets r x.Time < -2 ∨ 2 < m.Value - Fa c.Targets r x.Time
theorem pR {b c : Base} {m : Fact} (h : LateB b c m) (hk : KnB b) {t ch r : Int} {i : Nat} {p : Fact} (hp : (Ey b t ch r)[i]? = some p) :
   (F2 c t ch r p.Time ((Ey b t ch r).take i) = F2 b t ch r p.Time ((Ey b t ch r).take i) ∧ m.ID ∉ (F2 b t ch r p.Time ((Ey b t ch r).take i)).uses) ∨
   ∃ x E, LateD b c m r (F2 b t ch r p.Time ((Ey b t ch r).take i)) (F2 c t ch r p.Time ((Ey b t ch r).take i)) p x E ∧ x.Tool = t ∧ x.Chamber = ch ∧ x.Recipe = r := by
 have hl : ((Ey b t ch r).take i).length ≤ 100 := by
   have h1 := G8 b t ch r
   have h2 : b.Processes.length ≤ 100 := hk.sh 0
   rw [List.length_take]; omega
 have hsub : ∀ x ∈ Dl (Gh b t ch p.Time) ((Ey b t ch r).take i), x ∈ (Ey b t ch r).take i := fun x hx => (Py.1 hx).1
 have hmem : ∀ x ∈ (Ey b t ch r).take i, x ∈ Ey b t ch r := fun x hx => List.mem_of_mem_take hx
 have hnd : (Dl (Gh b t ch p.Time) ((Ey b t ch r).take i)).Nodup := by
   rw [Oz]
   exact ((V4 hk.nd).sublist (List.take_sublist _ _)).filter _
 have hun : ∀ x ∈ Dl (Gh b t ch p.Time) ((Ey b t ch r).take i), x.ID = m.ID → ∀ y ∈ Dl (Gh b t ch p.Time) ((Ey b t ch r).take i), y.ID = m.ID → x = y := fun x hx e y hy e2 =>
   hk.uid x (Mg.1 (hmem x (hsub x hx))).1 y (Mg.1 (hmem y (hsub y hy))).1 (e.trans e2.symm)
 have hlen := Nl (Gh b t ch p.Time) ((Ey b t ch r).take i)
 have hb1 := L8 b.Measures b.Targets r p.Time (Dl (Gh b t ch p.Time) ((Ey b t ch r).take i))
 have hc1 := L8 c.Measures c.Targets r p.Time (Dl (Gh b t ch p.Time) ((Ey b t ch r).take i))
 rcases Zr h r p.Time _ (0, []) hun hnd (by simp) with ⟨h1, h2⟩ | ⟨x, hx, hid, hcl, h1, h2, h3⟩
 · refine .inl ⟨?_, h2⟩
   have h1 : Ji c.Measures c.Targets r p.Time (Dl (Gh b t ch p.Time) ((Ey b t ch r).take i)) = Ji b.Measures b.Targets r p.Time (Dl (Gh b t ch p.Time) ((Ey b t ch r).take i)) := h1
   unfold F2
   rw [O0 h, h1, h.T]
 have hnc : Ex (c.Measures.find? fun y => decide (y.ID = x.ID)) p.Time = false := by
   cases e : Ex (c.Measures.find? fun y => decide (y.ID = x.ID)) p.Time with
   | false => rfl
   | true => rw [Rf e] at hcl; cases hcl
 have hdv := Te (T := c.Targets) (r := r) hnc
 have hm : ((c.Measures.find? fun y => decide (y.ID = x.ID)).getD Ee) = m := by rw [hid, h.yes]; rfl
 have ht : m.Time ≤ p.Time := by
   unfold Ex at hnc
   simp only [Bool.or_eq_false_iff] at hnc
   have := hnc.2
   rw [hm] at this
   have := of_decide_eq_false this
   omega
 rw [hm] at hdv
 rw [hdv] at h1
 have h1 : (Ji c.Measures c.Targets r p.Time (Dl (Gh b t ch p.Time) ((Ey b t ch r).take i))).1 = (Ji b.Measures b.Targets r p.Time (Dl (Gh b t ch p.Time) ((Ey b t ch r).take i))).1 + (m.Value - Fa c.Targets r x.Time) := h1
 have hxt := hsub x hx
 obtain ⟨j, hj⟩ := List.mem_iff_getElem?.1 hxt
 rw [List.getElem?_take] at hj
 split at hj
 · rename_i hji
   have hd := Xd c.Measures c.Targets r x p.Time
   rw [hdv] at hd
   have hxm := Mg.1 (hmem x hxt)
   have hpm := Mg.1 (List.mem_of_getElem? hp)
   refine .inr ⟨x, (Ji b.Measures b.Targets r p.Time (Dl (Gh b t ch p.Time) ((Ey b t ch r).take i))).1, ⟨hid, hxm.1, ht, pN (uL b t ch r) hji hj hp, fun e => ?_, ?_, ?_, ?_, rfl, ?_, ?_, ?_, ?_⟩, hxm.2⟩
   · have e2 := hk.uid p hpm.1 x hxm.1 (e.trans hid.symm)
     subst e2
     have hil := (List.getElem?_eq_some_iff.1 hj).1
     have := (List.getElem?_inj hil (V4 hk.nd)).1 (hj.trans hp.symm)
     omega
   · rw [← h1]; omega
   · omega
   · omega
   · rw [← h1]; unfold F2; rw [O0 h]
   · unfold F2; rw [O0 h]; exact h2
   · unfold F2; rw [O0 h]; exact h3
   rw [hdv] at hcl; simpa [Hk] using hcl
 cases hj
def N0 : Value := .slice none 0 0
theorem pS (w : World) : Sl w N0 19 Fact.cells ([] : List Fact) := Sl.nil w 19 Fact.cells
end Go.Wx
namespace Go.Proofs.YtgjogglfnkgapaaGreatDoor
open Go.Proofs.Tryz
open Go.Wx Go.RowKit
theorem Cd (c n : Int) (w : World) (hn : n ≠ 0) : Ret prog 44 #[vi c, vi n] w fun r w' => r = vi (A5 c n) ∧ Up w w' := by
 have hW := Up.refl w
 refine cT 13 func44 rfl (Af (Ay (Ao (Af (Ab rfl (I (.lss (.t rfl) (.const _)) (Ai (CW.b rfl (fun h6 => ?_) (fun h6 => ?_)))))))))
 ·replace h6 := dQ h6
  refine Aa (Ab rfl (I (.Gr (.t rfl) (.const _)) (I (.neg underlying3 (.t rfl)) (LW.A rfl (Ao (Aa (Ab rfl (Ab rfl (I (.rem (.t rfl) (.t rfl) oQ) (LW.A rfl (Ai (Ak (KW.q ?_)))))))))))))
  exact ⟨by (rw [A5, if_pos h6]), hW⟩
 replace h6 := dQ h6
 refine Aj (Ac (Af (Ab rfl (Ab rfl (I (.rem (.t rfl) (.t rfl) oQ) (LW.A rfl (Ai (Ak (KW.q ?_)))))))))
 exact ⟨by (rw [A5, if_neg (by omega)]), hW⟩
set_option maxHeartbeats 4000000 in
theorem pT (ad : Option Addr) (cp : Nat) (xs : List I6) (w : World) (hE0 : Els w ad 6 I6.cells xs) : Ret prog 8 #[.slice ad xs.length cp] w fun r w' => OwnS w' w.heap.size 28 19 Fact.cells r (Kj xs) ∧ Up w w' := by
 obtain ⟨w0, rfl, hS⟩ := W0 w
 refine cT 140 func8 rfl (Af (Ay (Ao (Aa (Ay (Ao (Am ?_)))))))
 replace hS := hS.add (Up.refl _) (A' := J 28 19 Fact.cells (.slice none 0 0) ([] : List Fact)) (OwnS.nil _ _ _ _ _) (fun i h => by cases h)
 refine Aa (Ay (Ai (An (A8 (σ := Nat × Go.Value) (fun s w => (s.1 ≤ xs.length ∧ s.1 ≤ 30) ∧ (Wx.Sep no w0 w [J 28 19 Fact.cells s.2 (Kj (xs.take s.1))])) (fun s => [(4, .eq (vi (s.1 : Int))), (3, .eq (s.2))]) ([(0, .eq _), (2, .eq _)]) (fun s => xs.length - s.1) (0, .slice none 0 0) ?_ tQ ?_))))
 ·exact ⟨⟨Nat.zero_le _, Nat.zero_le _⟩, hS⟩
 rintro ⟨k, v⟩ w1 ⟨hk, hS⟩
 dsimp only at hk hS
 change CW _ _ _ _ _ _ _ ([(4, .eq (vi (k : Int))), (3, .eq (v))] ++ _) _
 refine Am (Af (Ab rfl (Ab rfl (I (.Di underlying22 (.t rfl)) (I (.l2 rfl rfl) (Ab rfl (Fk rfl rfl (LW.gr rfl (fun hc => PEv.lss vQ (.const _)) (I (.pa rfl (fun hp => (by exact .cond rfl (by (rw [hp]; rfl))))) (Ai (CW.b rfl (fun h14 => ?_) (fun h14 => ?_))))))))))))
 ·replace h14 := dQ h14
  refine Aj (Ac (Am (An (Am ?_))))
  have hE := hE0.up hS.Cr
  have hkl : k < xs.length ∧ k < 30 := by simp at h14; omega
  refine Aa (Ab rfl (Ab rfl ?_))
  obtain ⟨y, hy⟩ := Au (xs := xs) (i := k) oQ
  obtain ⟨By, oy, ay, hcy⟩ := hE _ y hy
  refine I (.Av underlying22 sizeOf102 (.t rfl) (.t rfl) oQ ay) (I (.lc rfl (hcy)) (Al (.Bm zeroValue102) rfl ?_))
  rintro _ w2 ⟨B5, rfl, MB5⟩
  refine Be (.Bi sizeOf102 rfl (.t rfl) (.t rfl) (I6.one _) MB5.blk rfl) ?_
  intro w3 LB5
  have NB5 := MB5.set LB5
  clear LB5 MB5
  replace hcy := hcy.up NB5.up
  replace hS := hS.Bn NB5
  refine Ao (Ht 18 [.eq (.pointer (some ⟨B5, 0, none⟩)), .eq (vi (y.a)), .eq (vi (wI (y.a.tdiv 5))), .eq (vi (A5 (wI (y.a.tdiv 5)) 3)), .eq (vi (wI (1 + A5 (wI (y.a.tdiv 5)) 3))), .eq (.pointer (some ⟨B5, 1, none⟩)), .eq (vi (y.b)), .eq (vi (A5 y.b 10)), .eq (.pointer (some ⟨B5, 1, none⟩)), .eq (vi (y.b)), .eq (vi (wI (y.b.tdiv 10))), .eq (vi (A5 (wI (y.b.tdiv 10)) 6)), .eq (.bool (decide (A5 (wI (y.b.tdiv 10)) 6 = 0))), .eq (.pointer (some ⟨B5, 2, none⟩)), .eq (vi (y.c)), .eq (vi (A5 y.c 60)), .eq (.agg (H9 y).cells), .pred fun v W => ∃ B, v = .pointer (some ⟨B, 0, none⟩) ∧ w3.drew.heap.size ≤ B ∧ Blk W B Ee.cells 28] [6, 37] kQ rfl kQ kQ kQ kQ kQ kQ kQ ⟨PhU.eq _, PhU.eq _, PhU.eq _, PhU.eq _, PhU.eq _, PhU.eq _, PhU.eq _, PhU.eq _, PhU.eq _, PhU.eq _, PhU.eq _, PhU.eq _, PhU.eq _, PhU.eq _, PhU.eq _, PhU.eq _, PhU.eq _, PhU.pred fun _ _ _ h u => let ⟨B, e, hz, hb⟩ := h; ⟨B, e, hz, hb.up u⟩, trivial⟩ ?_ ?_)
  ·intro W hU0
   have hU := (Up.drew w3).trans hU0
   have zU0 := hU0.size
   refine aC ⟨rfl, TU.p (.Ch (j := 0) underlying102 sizeOf3 (.t rfl) (.const _) cQ) rfl⟩ (aC ⟨rfl, TU.p (.lb rfl ((hS.b1.up hU).Ah rfl)) rfl⟩ (aC ⟨rfl, TU.p (.quo (.t rfl) (.const _) cQ) rfl⟩ (aC ⟨rfl, TU.c (eC (.ct rfl (.cons (.const _) .nil)) (Fz)) (Cd _ _ _ cQ) sQ⟩ (aC ⟨rfl, TU.p (.Gr (.const _) (.t rfl)) rfl⟩ (aC ⟨rfl, TU.p (.Ch (j := 1) underlying102 sizeOf3 (.t rfl) (.const _) cQ) rfl⟩ (aC ⟨rfl, TU.p (.lb rfl ((hS.b1.up hU).Ah rfl)) rfl⟩ (aC ⟨rfl, TU.c (eC (.ct rfl (.cons (.const _) .nil)) (Fz)) (Cd _ _ _ cQ) sQ⟩ (aC ⟨rfl, TU.p (.Ch (j := 1) underlying102 sizeOf3 (.t rfl) (.const _) cQ) rfl⟩ (aC ⟨rfl, TU.p (.lb rfl ((hS.b1.up hU).Ah rfl)) rfl⟩ (aC ⟨rfl, TU.p (.quo (.t rfl) (.const _) cQ) rfl⟩ (aC ⟨rfl, TU.c (eC (.ct rfl (.cons (.const _) .nil)) (Fz)) (Cd _ _ _ cQ) sQ⟩ (aC ⟨rfl, TU.p (.eql (.t rfl) (.const _)) rfl⟩ (aC ⟨rfl, TU.p (.Ch (j := 2) underlying102 sizeOf3 (.t rfl) (.const _) cQ) rfl⟩ (aC ⟨rfl, TU.p (.lb rfl ((hS.b1.up hU).Ah rfl)) rfl⟩ (aC ⟨rfl, TU.c (eC (.ct rfl (.cons (.const _) .nil)) (Fz)) (Cd _ _ _ cQ) sQ⟩ (aC ⟨rfl, TU.p (.build (cs := (H9 y).cells) underlying28 zeroValue28 Hr (.ct rfl (.ct rfl (.ct rfl (.cu rfl)))) rfl) rfl⟩ (aC ⟨rfl, TU.r (REv.Bm zeroValue28) (fun v W' h => let ⟨B, e, N⟩ := h; ⟨N.up, B, e, by rw [N.at_]; exact zU0, N.blk⟩)⟩ ?_)))))))))))))))))
   exact allL.nil
  intro w4 g hU0 hg
  have hU := (Up.drew w3).trans hU0
  obtain ⟨B6, e6, z6, hB6⟩ : ∃ B, g 6 = .pointer (some ⟨B, 0, none⟩) ∧ w3.drew.heap.size ≤ B ∧ Blk w4 B Ee.cells 28 := hg 17 _ 6 cQ rfl rfl
  have e37 : g 37 = .agg (H9 y).cells := hg 16 _ 37 cQ rfl rfl
  change LW _ _ _ _ _ _ _ _ ((6, .eq (g 6)) :: (37, .eq (g 37)) :: _) _
  rw [e6, e37]
  clear hg e6 e37
  replace hS := (hS.up (Up.drew _)).add hU0 (A' := Cc B6 Ee.cells 28) hB6 (fun i (e : i = B6) => by omega)
  refine Be (.Bi sizeOf28 rfl (.t rfl) (.t rfl) (Fact.one _) hS.b2 rfl) ?_
  intro w5 Nw5
  replace hS := hS.Cp 2 rfl (show Set_ _ w5 _ ((H9 y).cells) _ from Nw5)
  refine Ao (Af (I (.Ch (j := 0) underlying102 sizeOf3 (.t rfl) (.const _) cQ) (I (.lb rfl (hS.b1.Ah rfl)) (A3 (eC (.ct rfl (.cons (.const _) .nil)) (Fz)) rfl (Cd _ _ _ cQ) ?_))))
  rintro _ w6 ⟨rfl, uw6⟩
  replace hS := hS.up uw6
  refine Ai (An (Am (Af (I (.eql (.t rfl) (.const _)) (LW.A rfl (Ai (CW.b rfl (fun h62 => ?_) (fun h62 => ?_))))))))
  ·replace h62 := dQ h62
   refine Aj (Ac (CW.b rfl (fun h62 => ?_) (fun h62 => ?_)))
   ·replace h62 := dQ h62
    refine Af (I (.fB 0 rfl) (Be (.store sizeOf3 (.t rfl) (.const _) rfl hS.b2 bQ) ?_))
    intro w7 Nw7
    replace hS := hS.Cp 2 rfl (show Set_ _ w7 _ (({ H9 y with Kind := 1 } : Fact).cells) _ from Nw7)
    refine Ao (Aa (I (.Ch (j := 3) underlying102 sizeOf3 (.t rfl) (.const _) cQ) (I (.lb rfl (hS.b1.Ah rfl)) (A3 (eC (.ct rfl (.cons (.const _) .nil)) (Fz)) rfl (Cd _ _ _ cQ) ?_))))
    rintro _ w8 ⟨rfl, uw8⟩
    replace hS := hS.up uw8
    refine I (.Gr (.const _) (.t rfl)) (I (.fB 1 rfl) (Be (.store sizeOf3 (.t rfl) (.t rfl) rfl hS.b2 bQ) ?_))
    intro w9 Nw9
    replace hS := hS.Cp 2 rfl (show Set_ _ w9 _ (({ H9 y with Kind := 1, ID := wI (1 + A5 y.d 9) } : Fact).cells) _ from Nw9)
    refine Ao (Aa (I (.Ch (j := 4) underlying102 sizeOf3 (.t rfl) (.const _) cQ) (I (.lb rfl (hS.b1.Ah rfl)) (A3 (eC (.ct rfl (.cons (.const _) .nil)) (Fz)) rfl (Cd _ _ _ cQ) ?_))))
    rintro _ w10 ⟨rfl, uw10⟩
    replace hS := hS.up uw10
    refine I (.Gr (.const _) (.t rfl)) (I (.fB 7 rfl) (Be (.store sizeOf3 (.t rfl) (.t rfl) rfl hS.b2 bQ) ?_))
    intro w11 Nw11
    replace hS := hS.Cp 2 rfl (show Set_ _ w11 _ (({ H9 y with Kind := 1, ID := wI (1 + A5 y.d 9), Wafer := wI (1 + A5 y.e 4) } : Fact).cells) _ from Nw11)
    refine Ao (Aa (I (.Ch (j := 4) underlying102 sizeOf3 (.t rfl) (.const _) cQ) (I (.lb rfl (hS.b1.Ah rfl)) (I (.quo (.t rfl) (.const _) cQ) (A3 (eC (.ct rfl (.cons (.const _) .nil)) (Fz)) rfl (Cd _ _ _ cQ) ?_)))))
    rintro _ w12 ⟨rfl, uw12⟩
    replace hS := hS.up uw12
    refine I (.quo (.t rfl) (.const _) cQ) (I (.fB 11 rfl) (Be (.store sizeOf3 (.t rfl) (.t rfl) rfl hS.b2 bQ) ?_))
    intro w13 Nw13
    replace hS := hS.Cp 2 rfl (show Set_ _ w13 _ (({ H9 y with Kind := 1, ID := wI (1 + A5 y.d 9), Wafer := wI (1 + A5 y.e 4), Tool := wI ((A5 (wI (y.e.tdiv 4)) 8).tdiv 7) } : Fact).cells) _ from Nw13)
    refine Ao (Aa (I (.Ch (j := 4) underlying102 sizeOf3 (.t rfl) (.const _) cQ) (I (.lb rfl (hS.b1.Ah rfl)) (I (.quo (.t rfl) (.const _) cQ) (A3 (eC (.ct rfl (.cons (.const _) .nil)) (Fz)) rfl (Cd _ _ _ cQ) ?_)))))
    rintro _ w14 ⟨rfl, uw14⟩
    replace hS := hS.up uw14
    refine I (.quo (.t rfl) (.const _) cQ) (I (.fB 12 rfl) (Be (.store sizeOf3 (.t rfl) (.t rfl) rfl hS.b2 bQ) ?_))
    intro w15 Nw15
    replace hS := hS.Cp 2 rfl (show Set_ _ w15 _ (({ H9 y with Kind := 1, ID := wI (1 + A5 y.d 9), Wafer := wI (1 + A5 y.e 4), Tool := wI ((A5 (wI (y.e.tdiv 4)) 8).tdiv 7), Chamber := wI ((A5 (wI (y.e.tdiv 32)) 6).tdiv 5) } : Fact).cells) _ from Nw15)
    refine Ao (Aa (I (.Ch (j := 5) underlying102 sizeOf3 (.t rfl) (.const _) cQ) (I (.lb rfl (hS.b1.Ah rfl)) (A3 (eC (.ct rfl (.cons (.const _) .nil)) (Fz)) rfl (Cd _ _ _ cQ) ?_))))
    rintro _ w16 ⟨rfl, uw16⟩
    replace hS := hS.up uw16
    refine I (.quo (.t rfl) (.const _) cQ) (I (.Gr (.const _) (.t rfl)) (I (.fB 14 rfl) (Be (.store sizeOf3 (.t rfl) (.t rfl) rfl hS.b2 bQ) ?_)))
    intro w17 Nw17
    replace hS := hS.Cp 2 rfl (show Set_ _ w17 _ (({ H9 y with Kind := 1, ID := wI (1 + A5 y.d 9), Wafer := wI (1 + A5 y.e 4), Tool := wI ((A5 (wI (y.e.tdiv 4)) 8).tdiv 7), Chamber := wI ((A5 (wI (y.e.tdiv 32)) 6).tdiv 5), Recipe := wI (1 + wI ((A5 y.f 8).tdiv 7)) } : Fact).cells) _ from Nw17)
    refine Ao (Aa (I (.fB 15 rfl) (Be (.store sizeOf3 (.t rfl) (.const _) rfl hS.b2 bQ) ?_)))
    intro w18 Nw18
    replace hS := hS.Cp 2 rfl (show Set_ _ w18 _ (({ H9 y with Kind := 1, ID := wI (1 + A5 y.d 9), Wafer := wI (1 + A5 y.e 4), Tool := wI ((A5 (wI (y.e.tdiv 4)) 8).tdiv 7), Chamber := wI ((A5 (wI (y.e.tdiv 32)) 6).tdiv 5), Recipe := wI (1 + wI ((A5 y.f 8).tdiv 7)), Revision := 1 } : Fact).cells) _ from Nw18)
    refine Ao (Ew 8 kQ kQ kQ kQ kQ rfl rfl (U (.fB 5 rfl) (U (.lb rfl (hS.b2.Ah rfl)) (U (.Ch (j := 5) underlying102 sizeOf3 (.t rfl) (.const _) cQ) (U (.lb rfl (hS.b1.Ah rfl)) (U (.quo (.t rfl) (.const _) cQ) (HW.c (fun a w _ ha => Ci (.ct rfl (.cons (.const _) .nil)) (Fz) a ha) rfl rfl (fun w hu => Cd _ _ w cQ) (U (.Gr (.t rfl) (.t rfl)) (U (.fB 6 rfl) (HW.nil ?_))))))))))
    intro w19 uw19
    replace hS := hS.up uw19
    refine Be (.store sizeOf3 (.t rfl) (.t rfl) rfl hS.b2 bQ) ?_
    intro w20 Nw20
    replace hS := hS.Cp 2 rfl (show Set_ _ w20 _ (({ H9 y with Kind := 1, ID := wI (1 + A5 y.d 9), Wafer := wI (1 + A5 y.e 4), Tool := wI ((A5 (wI (y.e.tdiv 4)) 8).tdiv 7), Chamber := wI ((A5 (wI (y.e.tdiv 32)) 6).tdiv 5), Recipe := wI (1 + wI ((A5 y.f 8).tdiv 7)), Revision := 1, Until := wI ((H9 y).Time + A5 (wI (y.f.tdiv 8)) 9) } : Fact).cells) _ from Nw20)
    refine Ai (Aa (I (.Ch (j := 5) underlying102 sizeOf3 (.t rfl) (.const _) cQ) (I (.lb rfl (hS.b1.Ah rfl)) (I (.quo (.t rfl) (.const _) cQ) (A3 (eC (.ct rfl (.cons (.const _) .nil)) (Fz)) rfl (Cd _ _ _ cQ) ?_)))))
    rintro _ w21 ⟨rfl, uw21⟩
    replace hS := hS.up uw21
    refine I (.Jj (.const _) (.t rfl)) (I (.fB 16 rfl) (Be (.store sizeOf3 (.t rfl) (.t rfl) rfl hS.b2 bQ) ?_))
    intro w22 Nw22
    replace hS := hS.Cp 2 rfl (show Set_ _ w22 _ (({ H9 y with Kind := 1, ID := wI (1 + A5 y.d 9), Wafer := wI (1 + A5 y.e 4), Tool := wI ((A5 (wI (y.e.tdiv 4)) 8).tdiv 7), Chamber := wI ((A5 (wI (y.e.tdiv 32)) 6).tdiv 5), Recipe := wI (1 + wI ((A5 y.f 8).tdiv 7)), Revision := 1, Until := wI ((H9 y).Time + A5 (wI (y.f.tdiv 8)) 9), Value := wI (1000 * A5 (wI (y.f.tdiv 72)) 40) } : Fact).cells) _ from Nw22)
    refine LW.nil (Ae (Ac ?_))
    (have hso := yC (y := y) (by omega); change Wx.Sep no w0 _ [_, _, Cc B6 (BO y).cells _] at hS; generalize BO y = ff at hS hso)
    have hsl := Iu (xs.take k)
    refine Aa (Ab rfl (I (.lc rfl (hS.b2.agg)) (Al (.buildSlice (xs := [ff]) (enc := Fact.cells) (mk := fun f : Fact => .agg f.cells) underlying25 sizeOf28 zeroValue28 rfl cQ (fun _ => rfl) (fun _ => rfl) (.cu rfl) rfl) rfl ?_)))
    rintro _ w23 ⟨B137, cB137, rfl, NB137, yB137, xB137⟩
    replace hS := hS.up NB137.up
    have hE137 := xB137
    refine Al (.C2 (enc := Fact.cells) (bytes := 160) (i := Tryz.t28) underlying25 kQ rfl rfl rfl rfl cQ (fun _ => rfl) Fact.one (.t rfl) (.t rfl) (hS.own 0 rfl) (Aw hE137) (by have := hsl; simp [maxLen]; omega) (by have := hsl; simp; omega)) rfl ?_
    intro v138 w24 Gw24
    replace hS := hS.Ez 0 rfl Gw24
    refine LW.A rfl (LW.nil (Ae (Ac (Aa (Ab rfl (I (.ic rfl oQ) (LW.A rfl (LW.nil (Ar ?_)))))))))
    exact ⟨(k + 1, v138), ⟨⟨by show k + 1 ≤ _; omega, by show k + 1 ≤ _; omega⟩, by (rw [Jr hy hkl.2 hso]; exact hS.take 1)⟩, tQ, by show xs.length - (k + 1) < xs.length - k; omega⟩
   replace h62 := dQ h62
   refine Af (I (.eql (.t rfl) (.const _)) (LW.A rfl (Ai (CW.b rfl (fun h109 => ?_) (fun h109 => ?_)))))
   ·replace h109 := dQ h109
    refine Af (I (.fB 0 rfl) (Be (.store sizeOf3 (.t rfl) (.const _) rfl hS.b2 bQ) ?_))
    intro w25 Nw25
    replace hS := hS.Cp 2 rfl (show Set_ _ w25 _ (({ H9 y with Kind := 2 } : Fact).cells) _ from Nw25)
    refine Ao (Aa (I (.Ch (j := 3) underlying102 sizeOf3 (.t rfl) (.const _) cQ) (I (.lb rfl (hS.b1.Ah rfl)) (A3 (eC (.ct rfl (.cons (.const _) .nil)) (Fz)) rfl (Cd _ _ _ cQ) ?_))))
    rintro _ w26 ⟨rfl, uw26⟩
    replace hS := hS.up uw26
    refine I (.Gr (.const _) (.t rfl)) (I (.fB 1 rfl) (Be (.store sizeOf3 (.t rfl) (.t rfl) rfl hS.b2 bQ) ?_))
    intro w27 Nw27
    replace hS := hS.Cp 2 rfl (show Set_ _ w27 _ (({ H9 y with Kind := 2, ID := wI (1 + A5 y.d 9) } : Fact).cells) _ from Nw27)
    refine Ai (Aa (I (.Ch (j := 5) underlying102 sizeOf3 (.t rfl) (.const _) cQ) (I (.lb rfl (hS.b1.Ah rfl)) (A3 (eC (.ct rfl (.cons (.const _) .nil)) (Fz)) rfl (Cd _ _ _ cQ) ?_))))
    rintro _ w28 ⟨rfl, uw28⟩
    replace hS := hS.up uw28
    refine I (.Xv (.t rfl) (.const _)) (I (.fB 16 rfl) (Be (.store sizeOf3 (.t rfl) (.t rfl) rfl hS.b2 bQ) ?_))
    intro w29 Nw29
    replace hS := hS.Cp 2 rfl (show Set_ _ w29 _ (({ H9 y with Kind := 2, ID := wI (1 + A5 y.d 9), Value := wI (A5 y.f 60 - 10) } : Fact).cells) _ from Nw29)
    refine LW.nil (Ae (Ac ?_))
    (have hso := yD (y := y) (by omega); change Wx.Sep no w0 _ [_, _, Cc B6 (BP y).cells _] at hS; generalize BP y = ff at hS hso)
    have hsl := Iu (xs.take k)
    refine Aa (Ab rfl (I (.lc rfl (hS.b2.agg)) (Al (.buildSlice (xs := [ff]) (enc := Fact.cells) (mk := fun f : Fact => .agg f.cells) underlying25 sizeOf28 zeroValue28 rfl cQ (fun _ => rfl) (fun _ => rfl) (.cu rfl) rfl) rfl ?_)))
    rintro _ w30 ⟨B137, cB137, rfl, NB137, yB137, xB137⟩
    replace hS := hS.up NB137.up
    have hE137 := xB137
    refine Al (.C2 (enc := Fact.cells) (bytes := 160) (i := Tryz.t28) underlying25 kQ rfl rfl rfl rfl cQ (fun _ => rfl) Fact.one (.t rfl) (.t rfl) (hS.own 0 rfl) (Aw hE137) (by have := hsl; simp [maxLen]; omega) (by have := hsl; simp; omega)) rfl ?_
    intro v138 w31 Gw31
    replace hS := hS.Ez 0 rfl Gw31
    refine LW.A rfl (LW.nil (Ae (Ac (Aa (Ab rfl (I (.ic rfl oQ) (LW.A rfl (LW.nil (Ar ?_)))))))))
    exact ⟨(k + 1, v138), ⟨⟨by show k + 1 ≤ _; omega, by show k + 1 ≤ _; omega⟩, by (rw [Jr hy hkl.2 hso]; exact hS.take 1)⟩, tQ, by show xs.length - (k + 1) < xs.length - k; omega⟩
   replace h109 := dQ h109
   refine Af (I (.eql (.t rfl) (.const _)) (LW.A rfl (Ai (CW.b rfl (fun h122 => ?_) (fun h122 => ?_)))))
   ·replace h122 := dQ h122
    refine Af (I (.fB 0 rfl) (Be (.store sizeOf3 (.t rfl) (.const _) rfl hS.b2 bQ) ?_))
    intro w32 Nw32
    replace hS := hS.Cp 2 rfl (show Set_ _ w32 _ (({ H9 y with Kind := 10 } : Fact).cells) _ from Nw32)
    refine Ao (Aa (I (.Ch (j := 3) underlying102 sizeOf3 (.t rfl) (.const _) cQ) (I (.lb rfl (hS.b1.Ah rfl)) (A3 (eC (.ct rfl (.cons (.const _) .nil)) (Fz)) rfl (Cd _ _ _ cQ) ?_))))
    rintro _ w33 ⟨rfl, uw33⟩
    replace hS := hS.up uw33
    refine I (.quo (.t rfl) (.const _) cQ) (I (.Gr (.const _) (.t rfl)) (I (.fB 14 rfl) (Be (.store sizeOf3 (.t rfl) (.t rfl) rfl hS.b2 bQ) ?_)))
    intro w34 Nw34
    replace hS := hS.Cp 2 rfl (show Set_ _ w34 _ (({ H9 y with Kind := 10, Recipe := wI (1 + wI ((A5 y.d 8).tdiv 7)) } : Fact).cells) _ from Nw34)
    refine Ai (Aa (I (.Ch (j := 5) underlying102 sizeOf3 (.t rfl) (.const _) cQ) (I (.lb rfl (hS.b1.Ah rfl)) (A3 (eC (.ct rfl (.cons (.const _) .nil)) (Fz)) rfl (Cd _ _ _ cQ) ?_))))
    rintro _ w35 ⟨rfl, uw35⟩
    replace hS := hS.up uw35
    refine I (.fB 16 rfl) (Be (.store sizeOf3 (.t rfl) (.t rfl) rfl hS.b2 bQ) ?_)
    intro w36 Nw36
    replace hS := hS.Cp 2 rfl (show Set_ _ w36 _ (({ H9 y with Kind := 10, Recipe := wI (1 + wI ((A5 y.d 8).tdiv 7)), Value := A5 y.f 40 } : Fact).cells) _ from Nw36)
    refine LW.nil (Ae (Ac ?_))
    (have hso := yE (y := y) (by omega); change Wx.Sep no w0 _ [_, _, Cc B6 (BQ y).cells _] at hS; generalize BQ y = ff at hS hso)
    have hsl := Iu (xs.take k)
    refine Aa (Ab rfl (I (.lc rfl (hS.b2.agg)) (Al (.buildSlice (xs := [ff]) (enc := Fact.cells) (mk := fun f : Fact => .agg f.cells) underlying25 sizeOf28 zeroValue28 rfl cQ (fun _ => rfl) (fun _ => rfl) (.cu rfl) rfl) rfl ?_)))
    rintro _ w37 ⟨B137, cB137, rfl, NB137, yB137, xB137⟩
    replace hS := hS.up NB137.up
    have hE137 := xB137
    refine Al (.C2 (enc := Fact.cells) (bytes := 160) (i := Tryz.t28) underlying25 kQ rfl rfl rfl rfl cQ (fun _ => rfl) Fact.one (.t rfl) (.t rfl) (hS.own 0 rfl) (Aw hE137) (by have := hsl; simp [maxLen]; omega) (by have := hsl; simp; omega)) rfl ?_
    intro v138 w38 Gw38
    replace hS := hS.Ez 0 rfl Gw38
    refine LW.A rfl (LW.nil (Ae (Ac (Aa (Ab rfl (I (.ic rfl oQ) (LW.A rfl (LW.nil (Ar ?_)))))))))
    exact ⟨(k + 1, v138), ⟨⟨by show k + 1 ≤ _; omega, by show k + 1 ≤ _; omega⟩, by (rw [Jr hy hkl.2 hso]; exact hS.take 1)⟩, tQ, by show xs.length - (k + 1) < xs.length - k; omega⟩
   replace h122 := dQ h122
   refine Am (Af (I (.Ch (j := 5) underlying102 sizeOf3 (.t rfl) (.const _) cQ) (I (.lb rfl (hS.b1.Ah rfl)) (A3 (eC (.ct rfl (.cons (.const _) .nil)) (Fz)) rfl (Cd _ _ _ cQ) ?_))))
   rintro _ w39 ⟨rfl, uw39⟩
   replace hS := hS.up uw39
   refine I (.gtr (.t rfl) (.const _)) (Ai (CW.b rfl (fun h44 => ?_) (fun h44 => ?_)))
   ·replace h44 := dQ h44
    have hso := yF (y := y) oQ oQ oQ oQ h44
    refine Bl (Ad (Jt cQ (Ad (Aq (Ac (Aa (Ab rfl (I (.ic rfl oQ) (LW.A rfl (LW.nil (Ar ?_)))))))))))
    exact ⟨(k + 1, v), ⟨⟨by show k + 1 ≤ _; omega, by show k + 1 ≤ _; omega⟩, by (rw [pI hy hkl.2 hso]; exact hS.take 1)⟩, tQ, by show xs.length - (k + 1) < xs.length - k; omega⟩
   replace h44 := dQ h44
   refine Aj (Ac (Af (I (.fB 0 rfl) (Be (.store sizeOf3 (.t rfl) (.const _) rfl hS.b2 bQ) ?_))))
   intro w40 Nw40
   replace hS := hS.Cp 2 rfl (show Set_ _ w40 _ (({ H9 y with Kind := 9 } : Fact).cells) _ from Nw40)
   refine Ao (Aa (I (.Ch (j := 3) underlying102 sizeOf3 (.t rfl) (.const _) cQ) (I (.lb rfl (hS.b1.Ah rfl)) (A3 (eC (.ct rfl (.cons (.const _) .nil)) (Fz)) rfl (Cd _ _ _ cQ) ?_))))
   rintro _ w41 ⟨rfl, uw41⟩
   replace hS := hS.up uw41
   refine I (.Gr (.const _) (.t rfl)) (I (.fB 1 rfl) (Be (.store sizeOf3 (.t rfl) (.t rfl) rfl hS.b2 bQ) ?_))
   intro w42 Nw42
   replace hS := hS.Cp 2 rfl (show Set_ _ w42 _ (({ H9 y with Kind := 9, ID := wI (1 + A5 y.d 9) } : Fact).cells) _ from Nw42)
   refine Ao (Aa (I (.Ch (j := 4) underlying102 sizeOf3 (.t rfl) (.const _) cQ) (I (.lb rfl (hS.b1.Ah rfl)) (A3 (eC (.ct rfl (.cons (.const _) .nil)) (Fz)) rfl (Cd _ _ _ cQ) ?_))))
   rintro _ w43 ⟨rfl, uw43⟩
   replace hS := hS.up uw43
   refine I (.quo (.t rfl) (.const _) cQ) (I (.fB 11 rfl) (Be (.store sizeOf3 (.t rfl) (.t rfl) rfl hS.b2 bQ) ?_))
   intro w44 Nw44
   replace hS := hS.Cp 2 rfl (show Set_ _ w44 _ (({ H9 y with Kind := 9, ID := wI (1 + A5 y.d 9), Tool := wI ((A5 y.e 8).tdiv 7) } : Fact).cells) _ from Nw44)
   refine Ai (Aa (I (.Ch (j := 4) underlying102 sizeOf3 (.t rfl) (.const _) cQ) (I (.lb rfl (hS.b1.Ah rfl)) (I (.quo (.t rfl) (.const _) cQ) (A3 (eC (.ct rfl (.cons (.const _) .nil)) (Fz)) rfl (Cd _ _ _ cQ) ?_)))))
   rintro _ w45 ⟨rfl, uw45⟩
   replace hS := hS.up uw45
   refine I (.quo (.t rfl) (.const _) cQ) (I (.fB 12 rfl) (Be (.store sizeOf3 (.t rfl) (.t rfl) rfl hS.b2 bQ) ?_))
   intro w46 Nw46
   replace hS := hS.Cp 2 rfl (show Set_ _ w46 _ (({ H9 y with Kind := 9, ID := wI (1 + A5 y.d 9), Tool := wI ((A5 y.e 8).tdiv 7), Chamber := wI ((A5 (wI (y.e.tdiv 8)) 6).tdiv 5) } : Fact).cells) _ from Nw46)
   refine LW.nil (Ae (Ac ?_))
   (have hso := yG (y := y) oQ oQ oQ oQ (by omega); change Wx.Sep no w0 _ [_, _, Cc B6 (BR y).cells _] at hS; generalize BR y = ff at hS hso)
   have hsl := Iu (xs.take k)
   refine Aa (Ab rfl (I (.lc rfl (hS.b2.agg)) (Al (.buildSlice (xs := [ff]) (enc := Fact.cells) (mk := fun f : Fact => .agg f.cells) underlying25 sizeOf28 zeroValue28 rfl cQ (fun _ => rfl) (fun _ => rfl) (.cu rfl) rfl) rfl ?_)))
   rintro _ w47 ⟨B137, cB137, rfl, NB137, yB137, xB137⟩
   replace hS := hS.up NB137.up
   have hE137 := xB137
   refine Al (.C2 (enc := Fact.cells) (bytes := 160) (i := Tryz.t28) underlying25 kQ rfl rfl rfl rfl cQ (fun _ => rfl) Fact.one (.t rfl) (.t rfl) (hS.own 0 rfl) (Aw hE137) (by have := hsl; simp [maxLen]; omega) (by have := hsl; simp; omega)) rfl ?_
   intro v138 w48 Gw48
   replace hS := hS.Ez 0 rfl Gw48
   refine LW.A rfl (LW.nil (Ae (Ac (Aa (Ab rfl (I (.ic rfl oQ) (LW.A rfl (LW.nil (Ar ?_)))))))))
   exact ⟨(k + 1, v138), ⟨⟨by show k + 1 ≤ _; omega, by show k + 1 ≤ _; omega⟩, by (rw [Jr hy hkl.2 hso]; exact hS.take 1)⟩, tQ, by show xs.length - (k + 1) < xs.length - k; omega⟩
  replace h62 := dQ h62
  refine Aa (I (.eql (.t rfl) (.const _)) (LW.A rfl (Ai (CW.b rfl (fun h62 => ?_) (fun h62 => ?_)))))
  ·replace h62 := dQ h62
   refine Af (I (.fB 0 rfl) (Be (.store sizeOf3 (.t rfl) (.const _) rfl hS.b2 bQ) ?_))
   intro w49 Nw49
   replace hS := hS.Cp 2 rfl (show Set_ _ w49 _ (({ H9 y with Kind := 1 } : Fact).cells) _ from Nw49)
   refine Ao (Aa (I (.Ch (j := 3) underlying102 sizeOf3 (.t rfl) (.const _) cQ) (I (.lb rfl (hS.b1.Ah rfl)) (A3 (eC (.ct rfl (.cons (.const _) .nil)) (Fz)) rfl (Cd _ _ _ cQ) ?_))))
   rintro _ w50 ⟨rfl, uw50⟩
   replace hS := hS.up uw50
   refine I (.Gr (.const _) (.t rfl)) (I (.fB 1 rfl) (Be (.store sizeOf3 (.t rfl) (.t rfl) rfl hS.b2 bQ) ?_))
   intro w51 Nw51
   replace hS := hS.Cp 2 rfl (show Set_ _ w51 _ (({ H9 y with Kind := 1, ID := wI (1 + A5 y.d 9) } : Fact).cells) _ from Nw51)
   refine Ao (Aa (I (.Ch (j := 4) underlying102 sizeOf3 (.t rfl) (.const _) cQ) (I (.lb rfl (hS.b1.Ah rfl)) (A3 (eC (.ct rfl (.cons (.const _) .nil)) (Fz)) rfl (Cd _ _ _ cQ) ?_))))
   rintro _ w52 ⟨rfl, uw52⟩
   replace hS := hS.up uw52
   refine I (.Gr (.const _) (.t rfl)) (I (.fB 7 rfl) (Be (.store sizeOf3 (.t rfl) (.t rfl) rfl hS.b2 bQ) ?_))
   intro w53 Nw53
   replace hS := hS.Cp 2 rfl (show Set_ _ w53 _ (({ H9 y with Kind := 1, ID := wI (1 + A5 y.d 9), Wafer := wI (1 + A5 y.e 4) } : Fact).cells) _ from Nw53)
   refine Ao (Aa (I (.Ch (j := 4) underlying102 sizeOf3 (.t rfl) (.const _) cQ) (I (.lb rfl (hS.b1.Ah rfl)) (I (.quo (.t rfl) (.const _) cQ) (A3 (eC (.ct rfl (.cons (.const _) .nil)) (Fz)) rfl (Cd _ _ _ cQ) ?_)))))
   rintro _ w54 ⟨rfl, uw54⟩
   replace hS := hS.up uw54
   refine I (.quo (.t rfl) (.const _) cQ) (I (.fB 11 rfl) (Be (.store sizeOf3 (.t rfl) (.t rfl) rfl hS.b2 bQ) ?_))
   intro w55 Nw55
   replace hS := hS.Cp 2 rfl (show Set_ _ w55 _ (({ H9 y with Kind := 1, ID := wI (1 + A5 y.d 9), Wafer := wI (1 + A5 y.e 4), Tool := wI ((A5 (wI (y.e.tdiv 4)) 8).tdiv 7) } : Fact).cells) _ from Nw55)
   refine Ao (Aa (I (.Ch (j := 4) underlying102 sizeOf3 (.t rfl) (.const _) cQ) (I (.lb rfl (hS.b1.Ah rfl)) (I (.quo (.t rfl) (.const _) cQ) (A3 (eC (.ct rfl (.cons (.const _) .nil)) (Fz)) rfl (Cd _ _ _ cQ) ?_)))))
   rintro _ w56 ⟨rfl, uw56⟩
   replace hS := hS.up uw56
   refine I (.quo (.t rfl) (.const _) cQ) (I (.fB 12 rfl) (Be (.store sizeOf3 (.t rfl) (.t rfl) rfl hS.b2 bQ) ?_))
   intro w57 Nw57
   replace hS := hS.Cp 2 rfl (show Set_ _ w57 _ (({ H9 y with Kind := 1, ID := wI (1 + A5 y.d 9), Wafer := wI (1 + A5 y.e 4), Tool := wI ((A5 (wI (y.e.tdiv 4)) 8).tdiv 7), Chamber := wI ((A5 (wI (y.e.tdiv 32)) 6).tdiv 5) } : Fact).cells) _ from Nw57)
   refine Ao (Aa (I (.Ch (j := 5) underlying102 sizeOf3 (.t rfl) (.const _) cQ) (I (.lb rfl (hS.b1.Ah rfl)) (A3 (eC (.ct rfl (.cons (.const _) .nil)) (Fz)) rfl (Cd _ _ _ cQ) ?_))))
   rintro _ w58 ⟨rfl, uw58⟩
   replace hS := hS.up uw58
   refine I (.quo (.t rfl) (.const _) cQ) (I (.Gr (.const _) (.t rfl)) (I (.fB 14 rfl) (Be (.store sizeOf3 (.t rfl) (.t rfl) rfl hS.b2 bQ) ?_)))
   intro w59 Nw59
   replace hS := hS.Cp 2 rfl (show Set_ _ w59 _ (({ H9 y with Kind := 1, ID := wI (1 + A5 y.d 9), Wafer := wI (1 + A5 y.e 4), Tool := wI ((A5 (wI (y.e.tdiv 4)) 8).tdiv 7), Chamber := wI ((A5 (wI (y.e.tdiv 32)) 6).tdiv 5), Recipe := wI (1 + wI ((A5 y.f 8).tdiv 7)) } : Fact).cells) _ from Nw59)
   refine Ao (Aa (I (.fB 15 rfl) (Be (.store sizeOf3 (.t rfl) (.const _) rfl hS.b2 bQ) ?_)))
   intro w60 Nw60
   replace hS := hS.Cp 2 rfl (show Set_ _ w60 _ (({ H9 y with Kind := 1, ID := wI (1 + A5 y.d 9), Wafer := wI (1 + A5 y.e 4), Tool := wI ((A5 (wI (y.e.tdiv 4)) 8).tdiv 7), Chamber := wI ((A5 (wI (y.e.tdiv 32)) 6).tdiv 5), Recipe := wI (1 + wI ((A5 y.f 8).tdiv 7)), Revision := 1 } : Fact).cells) _ from Nw60)
   refine Ao (Ew 8 kQ kQ kQ kQ kQ rfl rfl (U (.fB 5 rfl) (U (.lb rfl (hS.b2.Ah rfl)) (U (.Ch (j := 5) underlying102 sizeOf3 (.t rfl) (.const _) cQ) (U (.lb rfl (hS.b1.Ah rfl)) (U (.quo (.t rfl) (.const _) cQ) (HW.c (fun a w _ ha => Ci (.ct rfl (.cons (.const _) .nil)) (Fz) a ha) rfl rfl (fun w hu => Cd _ _ w cQ) (U (.Gr (.t rfl) (.t rfl)) (U (.fB 6 rfl) (HW.nil ?_))))))))))
   intro w61 uw61
   replace hS := hS.up uw61
   refine Be (.store sizeOf3 (.t rfl) (.t rfl) rfl hS.b2 bQ) ?_
   intro w62 Nw62
   replace hS := hS.Cp 2 rfl (show Set_ _ w62 _ (({ H9 y with Kind := 1, ID := wI (1 + A5 y.d 9), Wafer := wI (1 + A5 y.e 4), Tool := wI ((A5 (wI (y.e.tdiv 4)) 8).tdiv 7), Chamber := wI ((A5 (wI (y.e.tdiv 32)) 6).tdiv 5), Recipe := wI (1 + wI ((A5 y.f 8).tdiv 7)), Revision := 1, Until := wI ((H9 y).Time + A5 (wI (y.f.tdiv 8)) 9) } : Fact).cells) _ from Nw62)
   refine Ai (Aa (I (.Ch (j := 5) underlying102 sizeOf3 (.t rfl) (.const _) cQ) (I (.lb rfl (hS.b1.Ah rfl)) (I (.quo (.t rfl) (.const _) cQ) (A3 (eC (.ct rfl (.cons (.const _) .nil)) (Fz)) rfl (Cd _ _ _ cQ) ?_)))))
   rintro _ w63 ⟨rfl, uw63⟩
   replace hS := hS.up uw63
   refine I (.Jj (.const _) (.t rfl)) (I (.fB 16 rfl) (Be (.store sizeOf3 (.t rfl) (.t rfl) rfl hS.b2 bQ) ?_))
   intro w64 Nw64
   replace hS := hS.Cp 2 rfl (show Set_ _ w64 _ (({ H9 y with Kind := 1, ID := wI (1 + A5 y.d 9), Wafer := wI (1 + A5 y.e 4), Tool := wI ((A5 (wI (y.e.tdiv 4)) 8).tdiv 7), Chamber := wI ((A5 (wI (y.e.tdiv 32)) 6).tdiv 5), Recipe := wI (1 + wI ((A5 y.f 8).tdiv 7)), Revision := 1, Until := wI ((H9 y).Time + A5 (wI (y.f.tdiv 8)) 9), Value := wI (1000 * A5 (wI (y.f.tdiv 72)) 40) } : Fact).cells) _ from Nw64)
   refine LW.nil (Ae (Ac ?_))
   (have hso := yC (y := y) (by omega); change Wx.Sep no w0 _ [_, _, Cc B6 (BO y).cells _] at hS; generalize BO y = ff at hS hso)
   have hsl := Iu (xs.take k)
   refine Aa (Ab rfl (I (.lc rfl (hS.b2.agg)) (Al (.buildSlice (xs := [ff]) (enc := Fact.cells) (mk := fun f : Fact => .agg f.cells) underlying25 sizeOf28 zeroValue28 rfl cQ (fun _ => rfl) (fun _ => rfl) (.cu rfl) rfl) rfl ?_)))
   rintro _ w65 ⟨B137, cB137, rfl, NB137, yB137, xB137⟩
   replace hS := hS.up NB137.up
   have hE137 := xB137
   refine Al (.C2 (enc := Fact.cells) (bytes := 160) (i := Tryz.t28) underlying25 kQ rfl rfl rfl rfl cQ (fun _ => rfl) Fact.one (.t rfl) (.t rfl) (hS.own 0 rfl) (Aw hE137) (by have := hsl; simp [maxLen]; omega) (by have := hsl; simp; omega)) rfl ?_
   intro v138 w66 Gw66
   replace hS := hS.Ez 0 rfl Gw66
   refine LW.A rfl (LW.nil (Ae (Ac (Aa (Ab rfl (I (.ic rfl oQ) (LW.A rfl (LW.nil (Ar ?_)))))))))
   exact ⟨(k + 1, v138), ⟨⟨by show k + 1 ≤ _; omega, by show k + 1 ≤ _; omega⟩, by (rw [Jr hy hkl.2 hso]; exact hS.take 1)⟩, tQ, by show xs.length - (k + 1) < xs.length - k; omega⟩
  replace h62 := dQ h62
  refine Af (I (.eql (.t rfl) (.const _)) (LW.A rfl (Ai (CW.b rfl (fun h109 => ?_) (fun h109 => ?_)))))
  ·replace h109 := dQ h109
   refine Af (I (.fB 0 rfl) (Be (.store sizeOf3 (.t rfl) (.const _) rfl hS.b2 bQ) ?_))
   intro w67 Nw67
   replace hS := hS.Cp 2 rfl (show Set_ _ w67 _ (({ H9 y with Kind := 2 } : Fact).cells) _ from Nw67)
   refine Ao (Aa (I (.Ch (j := 3) underlying102 sizeOf3 (.t rfl) (.const _) cQ) (I (.lb rfl (hS.b1.Ah rfl)) (A3 (eC (.ct rfl (.cons (.const _) .nil)) (Fz)) rfl (Cd _ _ _ cQ) ?_))))
   rintro _ w68 ⟨rfl, uw68⟩
   replace hS := hS.up uw68
   refine I (.Gr (.const _) (.t rfl)) (I (.fB 1 rfl) (Be (.store sizeOf3 (.t rfl) (.t rfl) rfl hS.b2 bQ) ?_))
   intro w69 Nw69
   replace hS := hS.Cp 2 rfl (show Set_ _ w69 _ (({ H9 y with Kind := 2, ID := wI (1 + A5 y.d 9) } : Fact).cells) _ from Nw69)
   refine Ai (Aa (I (.Ch (j := 5) underlying102 sizeOf3 (.t rfl) (.const _) cQ) (I (.lb rfl (hS.b1.Ah rfl)) (A3 (eC (.ct rfl (.cons (.const _) .nil)) (Fz)) rfl (Cd _ _ _ cQ) ?_))))
   rintro _ w70 ⟨rfl, uw70⟩
   replace hS := hS.up uw70
   refine I (.Xv (.t rfl) (.const _)) (I (.fB 16 rfl) (Be (.store sizeOf3 (.t rfl) (.t rfl) rfl hS.b2 bQ) ?_))
   intro w71 Nw71
   replace hS := hS.Cp 2 rfl (show Set_ _ w71 _ (({ H9 y with Kind := 2, ID := wI (1 + A5 y.d 9), Value := wI (A5 y.f 60 - 10) } : Fact).cells) _ from Nw71)
   refine LW.nil (Ae (Ac ?_))
   (have hso := yD (y := y) (by omega); change Wx.Sep no w0 _ [_, _, Cc B6 (BP y).cells _] at hS; generalize BP y = ff at hS hso)
   have hsl := Iu (xs.take k)
   refine Aa (Ab rfl (I (.lc rfl (hS.b2.agg)) (Al (.buildSlice (xs := [ff]) (enc := Fact.cells) (mk := fun f : Fact => .agg f.cells) underlying25 sizeOf28 zeroValue28 rfl cQ (fun _ => rfl) (fun _ => rfl) (.cu rfl) rfl) rfl ?_)))
   rintro _ w72 ⟨B137, cB137, rfl, NB137, yB137, xB137⟩
   replace hS := hS.up NB137.up
   have hE137 := xB137
   refine Al (.C2 (enc := Fact.cells) (bytes := 160) (i := Tryz.t28) underlying25 kQ rfl rfl rfl rfl cQ (fun _ => rfl) Fact.one (.t rfl) (.t rfl) (hS.own 0 rfl) (Aw hE137) (by have := hsl; simp [maxLen]; omega) (by have := hsl; simp; omega)) rfl ?_
   intro v138 w73 Gw73
   replace hS := hS.Ez 0 rfl Gw73
   refine LW.A rfl (LW.nil (Ae (Ac (Aa (Ab rfl (I (.ic rfl oQ) (LW.A rfl (LW.nil (Ar ?_)))))))))
   exact ⟨(k + 1, v138), ⟨⟨by show k + 1 ≤ _; omega, by show k + 1 ≤ _; omega⟩, by (rw [Jr hy hkl.2 hso]; exact hS.take 1)⟩, tQ, by show xs.length - (k + 1) < xs.length - k; omega⟩
  replace h109 := dQ h109
  refine Af (I (.eql (.t rfl) (.const _)) (LW.A rfl (Ai (CW.b rfl (fun h122 => ?_) (fun h122 => ?_)))))
  ·replace h122 := dQ h122
   refine Af (I (.fB 0 rfl) (Be (.store sizeOf3 (.t rfl) (.const _) rfl hS.b2 bQ) ?_))
   intro w74 Nw74
   replace hS := hS.Cp 2 rfl (show Set_ _ w74 _ (({ H9 y with Kind := 10 } : Fact).cells) _ from Nw74)
   refine Ao (Aa (I (.Ch (j := 3) underlying102 sizeOf3 (.t rfl) (.const _) cQ) (I (.lb rfl (hS.b1.Ah rfl)) (A3 (eC (.ct rfl (.cons (.const _) .nil)) (Fz)) rfl (Cd _ _ _ cQ) ?_))))
   rintro _ w75 ⟨rfl, uw75⟩
   replace hS := hS.up uw75
   refine I (.quo (.t rfl) (.const _) cQ) (I (.Gr (.const _) (.t rfl)) (I (.fB 14 rfl) (Be (.store sizeOf3 (.t rfl) (.t rfl) rfl hS.b2 bQ) ?_)))
   intro w76 Nw76
   replace hS := hS.Cp 2 rfl (show Set_ _ w76 _ (({ H9 y with Kind := 10, Recipe := wI (1 + wI ((A5 y.d 8).tdiv 7)) } : Fact).cells) _ from Nw76)
   refine Ai (Aa (I (.Ch (j := 5) underlying102 sizeOf3 (.t rfl) (.const _) cQ) (I (.lb rfl (hS.b1.Ah rfl)) (A3 (eC (.ct rfl (.cons (.const _) .nil)) (Fz)) rfl (Cd _ _ _ cQ) ?_))))
   rintro _ w77 ⟨rfl, uw77⟩
   replace hS := hS.up uw77
   refine I (.fB 16 rfl) (Be (.store sizeOf3 (.t rfl) (.t rfl) rfl hS.b2 bQ) ?_)
   intro w78 Nw78
   replace hS := hS.Cp 2 rfl (show Set_ _ w78 _ (({ H9 y with Kind := 10, Recipe := wI (1 + wI ((A5 y.d 8).tdiv 7)), Value := A5 y.f 40 } : Fact).cells) _ from Nw78)
   refine LW.nil (Ae (Ac ?_))
   (have hso := yE (y := y) (by omega); change Wx.Sep no w0 _ [_, _, Cc B6 (BQ y).cells _] at hS; generalize BQ y = ff at hS hso)
   have hsl := Iu (xs.take k)
   refine Aa (Ab rfl (I (.lc rfl (hS.b2.agg)) (Al (.buildSlice (xs := [ff]) (enc := Fact.cells) (mk := fun f : Fact => .agg f.cells) underlying25 sizeOf28 zeroValue28 rfl cQ (fun _ => rfl) (fun _ => rfl) (.cu rfl) rfl) rfl ?_)))
   rintro _ w79 ⟨B137, cB137, rfl, NB137, yB137, xB137⟩
   replace hS := hS.up NB137.up
   have hE137 := xB137
   refine Al (.C2 (enc := Fact.cells) (bytes := 160) (i := Tryz.t28) underlying25 kQ rfl rfl rfl rfl cQ (fun _ => rfl) Fact.one (.t rfl) (.t rfl) (hS.own 0 rfl) (Aw hE137) (by have := hsl; simp [maxLen]; omega) (by have := hsl; simp; omega)) rfl ?_
   intro v138 w80 Gw80
   replace hS := hS.Ez 0 rfl Gw80
   refine LW.A rfl (LW.nil (Ae (Ac (Aa (Ab rfl (I (.ic rfl oQ) (LW.A rfl (LW.nil (Ar ?_)))))))))
   exact ⟨(k + 1, v138), ⟨⟨by show k + 1 ≤ _; omega, by show k + 1 ≤ _; omega⟩, by (rw [Jr hy hkl.2 hso]; exact hS.take 1)⟩, tQ, by show xs.length - (k + 1) < xs.length - k; omega⟩
  replace h122 := dQ h122
  refine Am (Af (I (.Ch (j := 5) underlying102 sizeOf3 (.t rfl) (.const _) cQ) (I (.lb rfl (hS.b1.Ah rfl)) (A3 (eC (.ct rfl (.cons (.const _) .nil)) (Fz)) rfl (Cd _ _ _ cQ) ?_))))
  rintro _ w81 ⟨rfl, uw81⟩
  replace hS := hS.up uw81
  refine I (.gtr (.t rfl) (.const _)) (Ai (CW.b rfl (fun h44 => ?_) (fun h44 => ?_)))
  ·replace h44 := dQ h44
   have hso := yF (y := y) oQ oQ oQ oQ h44
   refine Bl (Ad (Jt cQ (Ad (Aq (Ac (Aa (Ab rfl (I (.ic rfl oQ) (LW.A rfl (LW.nil (Ar ?_)))))))))))
   exact ⟨(k + 1, v), ⟨⟨by show k + 1 ≤ _; omega, by show k + 1 ≤ _; omega⟩, by (rw [pI hy hkl.2 hso]; exact hS.take 1)⟩, tQ, by show xs.length - (k + 1) < xs.length - k; omega⟩
  replace h44 := dQ h44
  refine Aj (Ac (Af (I (.fB 0 rfl) (Be (.store sizeOf3 (.t rfl) (.const _) rfl hS.b2 bQ) ?_))))
  intro w82 Nw82
  replace hS := hS.Cp 2 rfl (show Set_ _ w82 _ (({ H9 y with Kind := 9 } : Fact).cells) _ from Nw82)
  refine Ao (Aa (I (.Ch (j := 3) underlying102 sizeOf3 (.t rfl) (.const _) cQ) (I (.lb rfl (hS.b1.Ah rfl)) (A3 (eC (.ct rfl (.cons (.const _) .nil)) (Fz)) rfl (Cd _ _ _ cQ) ?_))))
  rintro _ w83 ⟨rfl, uw83⟩
  replace hS := hS.up uw83
  refine I (.Gr (.const _) (.t rfl)) (I (.fB 1 rfl) (Be (.store sizeOf3 (.t rfl) (.t rfl) rfl hS.b2 bQ) ?_))
  intro w84 Nw84
  replace hS := hS.Cp 2 rfl (show Set_ _ w84 _ (({ H9 y with Kind := 9, ID := wI (1 + A5 y.d 9) } : Fact).cells) _ from Nw84)
  refine Ao (Aa (I (.Ch (j := 4) underlying102 sizeOf3 (.t rfl) (.const _) cQ) (I (.lb rfl (hS.b1.Ah rfl)) (A3 (eC (.ct rfl (.cons (.const _) .nil)) (Fz)) rfl (Cd _ _ _ cQ) ?_))))
  rintro _ w85 ⟨rfl, uw85⟩
  replace hS := hS.up uw85
  refine I (.quo (.t rfl) (.const _) cQ) (I (.fB 11 rfl) (Be (.store sizeOf3 (.t rfl) (.t rfl) rfl hS.b2 bQ) ?_))
  intro w86 Nw86
  replace hS := hS.Cp 2 rfl (show Set_ _ w86 _ (({ H9 y with Kind := 9, ID := wI (1 + A5 y.d 9), Tool := wI ((A5 y.e 8).tdiv 7) } : Fact).cells) _ from Nw86)
  refine Ai (Aa (I (.Ch (j := 4) underlying102 sizeOf3 (.t rfl) (.const _) cQ) (I (.lb rfl (hS.b1.Ah rfl)) (I (.quo (.t rfl) (.const _) cQ) (A3 (eC (.ct rfl (.cons (.const _) .nil)) (Fz)) rfl (Cd _ _ _ cQ) ?_)))))
  rintro _ w87 ⟨rfl, uw87⟩
  replace hS := hS.up uw87
  refine I (.quo (.t rfl) (.const _) cQ) (I (.fB 12 rfl) (Be (.store sizeOf3 (.t rfl) (.t rfl) rfl hS.b2 bQ) ?_))
  intro w88 Nw88
  replace hS := hS.Cp 2 rfl (show Set_ _ w88 _ (({ H9 y with Kind := 9, ID := wI (1 + A5 y.d 9), Tool := wI ((A5 y.e 8).tdiv 7), Chamber := wI ((A5 (wI (y.e.tdiv 8)) 6).tdiv 5) } : Fact).cells) _ from Nw88)
  refine LW.nil (Ae (Ac ?_))
  (have hso := yG (y := y) oQ oQ oQ oQ (by omega); change Wx.Sep no w0 _ [_, _, Cc B6 (BR y).cells _] at hS; generalize BR y = ff at hS hso)
  have hsl := Iu (xs.take k)
  refine Aa (Ab rfl (I (.lc rfl (hS.b2.agg)) (Al (.buildSlice (xs := [ff]) (enc := Fact.cells) (mk := fun f : Fact => .agg f.cells) underlying25 sizeOf28 zeroValue28 rfl cQ (fun _ => rfl) (fun _ => rfl) (.cu rfl) rfl) rfl ?_)))
  rintro _ w89 ⟨B137, cB137, rfl, NB137, yB137, xB137⟩
  replace hS := hS.up NB137.up
  have hE137 := xB137
  refine Al (.C2 (enc := Fact.cells) (bytes := 160) (i := Tryz.t28) underlying25 kQ rfl rfl rfl rfl cQ (fun _ => rfl) Fact.one (.t rfl) (.t rfl) (hS.own 0 rfl) (Aw hE137) (by have := hsl; simp [maxLen]; omega) (by have := hsl; simp; omega)) rfl ?_
  intro v138 w90 Gw90
  replace hS := hS.Ez 0 rfl Gw90
  refine LW.A rfl (LW.nil (Ae (Ac (Aa (Ab rfl (I (.ic rfl oQ) (LW.A rfl (LW.nil (Ar ?_)))))))))
  exact ⟨(k + 1, v138), ⟨⟨by show k + 1 ≤ _; omega, by show k + 1 ≤ _; omega⟩, by (rw [Jr hy hkl.2 hso]; exact hS.take 1)⟩, tQ, by show xs.length - (k + 1) < xs.length - k; omega⟩
 replace h14 := dQ h14
 refine Bl (Ad (Ad (Aq (Ac (Af (Ab rfl (LW.A rfl (Ai (Ak (KW.q ?_))))))))))
 rw [uJ (by simp at h14; omega)] at hS
 exact ⟨pH hS, hS.Cr⟩
theorem pU (p q : DP) (w : World) (hp0 : Sl w p.uv 1 Br p.dec.uses) (hq0 : Sl w q.uv 1 Br q.dec.uses) (hl : p.dec.uses.length ≤ 100000) : Ret prog 55 #[.agg p.cells, .agg q.cells] w fun r w' => r = .bool (Ie p.dec q.dec) ∧ Up w w' := by
 obtain ⟨w0, rfl, hS⟩ := W0 w
 obtain ⟨ad0, cp0, ev0, hE0⟩ := hp0
 obtain ⟨ad1, cp1, ev1, hE1⟩ := hq0
 cases ev0
 cases ev1
 refine cT 52 func55 rfl (Af (Al (.bA rfl) rfl ?_))
 rintro _ w1 ⟨B2, rfl, NB2⟩
 replace hS := hS.Bn NB2
 refine Al (.bA rfl) rfl ?_
 rintro _ w2 ⟨B3, rfl, NB3⟩
 replace hS := hS.Bn NB3
 refine Ay (Ao (Af (I (.fB 0 rfl) (I (.lb rfl (hS.b0.Ah rfl)) (I (.fB 0 rfl) (I (.lb rfl (hS.b1.Ah rfl)) (I (.neq (.t rfl) (.t rfl)) (Ab rfl (LW.gr rfl (fun hc => PEv.fB 1 rfl) (LW.gr rfl (fun hc => PEv.Gs isAgg39 sizeOf39 rfl vQ (gP hS.b0)) (LW.gr rfl (fun hc => PEv.fB 1 rfl) (LW.gr rfl (fun hc => PEv.Gs isAgg39 sizeOf39 rfl vQ (gP hS.b1)) (LW.gr rfl (fun hc => Rn eqGuardType39 (Me _ _) vQ vQ) (I (.po rfl (fun hp => (by exact .cond rfl (by (rw [hp]; rfl))))) (Ab rfl (LW.gr rfl (fun hc => PEv.fB 3 rfl) (LW.gr rfl (fun hc => PEv.Gs isAgg39 sizeOf39 rfl vQ (gQ hS.b0)) (LW.gr rfl (fun hc => PEv.fB 3 rfl) (LW.gr rfl (fun hc => PEv.Gs isAgg39 sizeOf39 rfl vQ (gQ hS.b1)) (LW.gr rfl (fun hc => Rn eqGuardType39 (Me _ _) vQ vQ) (I (.po rfl (fun hp => (by exact .cond rfl (by (rw [hp]; rfl))))) (Ab rfl (LW.gr rfl (fun hc => PEv.fB 5 rfl) (LW.gr rfl (fun hc => PEv.load isAgg34 vQ (hS.b0.Ah rfl)) (LW.gr rfl (fun hc => PEv.Di underlying34 vQ) (LW.gr rfl (fun hc => PEv.fB 5 rfl) (LW.gr rfl (fun hc => PEv.load isAgg34 vQ (hS.b1.Ah rfl)) (LW.gr rfl (fun hc => PEv.Di underlying34 vQ) (LW.gr rfl (fun hc => PEv.neq vQ vQ) (I (.po rfl (fun hp => (by exact .cond rfl (by (rw [hp]; rfl))))) (Ai (CW.b rfl (fun h33 => ?_) (fun h33 => ?_)))))))))))))))))))))))))))))))))
 ·replace h33 := dQ h33
  have hno : Ie p.dec q.dec = false := uK h33
  refine Af (Ay (Ai (Ak (Ap (KW.q ?_)))))
  exact ⟨by rw [hno], hS.Cr⟩
 replace h33 := dQ h33
 have hyes : (!decide (p.dec.run = q.dec.run) || !Xs p.dec.par q.dec.par || !Xs p.dec.est q.dec.est || !decide ((p.dec.uses.length : Int) = (q.dec.uses.length : Int))) = false := h33
 have hll : p.dec.uses.length = q.dec.uses.length := by simp at hyes; omega
 refine Aj (Ac (Am (Af (Ay (Ai (An (A8 (σ := Nat) (fun s w => (s ≤ p.dec.uses.length) ∧ (p.dec.uses.take s = q.dec.uses.take s) ∧ (Wx.Sep no w0 w [Cc B2 p.cells 44, Cc B3 q.cells 44])) (fun s => [(5, .eq (vi (s : Int)))]) ([(2, .eq _), (3, .eq _)]) (fun s => p.dec.uses.length - s) 0 ?_ tQ ?_)))))))
 ·exact ⟨Nat.zero_le _, rfl, hS⟩
 rintro k w3 ⟨hk, ht, hS⟩
 refine Am (Af (Ab rfl (I (.fB 5 rfl) (I (.lb rfl (hS.b0.Ah rfl)) (I (.Di underlying34 (.t rfl)) (I (.l2 rfl rfl) (Ai (CW.b rfl (fun h38 => ?_) (fun h38 => ?_)))))))))
 ·replace h38 := dQ h38
  refine Aj (Ac (Am (An (Am ?_))))
  obtain ⟨x, hx⟩ := Au (xs := p.dec.uses) (i := k) oQ
  obtain ⟨y, hy⟩ := Au (xs := q.dec.uses) (i := k) oQ
  obtain ⟨Bx, ox, ax, hcx⟩ := (Els.up hE0 hS.Cr) k x hx
  obtain ⟨By, oy, ay, hcy⟩ := (Els.up hE1 hS.Cr) k y hy
  refine C5 kQ kQ rfl rfl (U (.fB 5 rfl) (U (.lb rfl (hS.b0.Ah rfl)) (U (.mv rfl) (U (.Av underlying34 sizeOf3 (.t rfl) (.t rfl) oQ ax) (U (.lb rfl (hcx.nth (j := 0) rfl)) (U (.fB 5 rfl) (U (.lb rfl (hS.b1.Ah rfl)) (U (.mv rfl) (U (.Av underlying34 sizeOf3 (.t rfl) (.t rfl) oQ ay) (U (.lb rfl (hcy.nth (j := 0) rfl)) (U (.neq (.t rfl) (.t rfl)) (HW.nil ?_))))))))))))
  intro w4 uw4
  replace hS := hS.up uw4
  refine Ac (CW.b rfl (fun h51 => ?_) (fun h51 => ?_))
  ·replace h51 := dQ h51
   have hno : Ie p.dec q.dec = false := pJ hx hy (by simpa using h51)
   refine Af (Ay (Ai (Ak (A9 (Ap (Ap (A9 (Ap (KW.q ?_)))))))))
   exact ⟨by rw [hno], hS.Cr⟩
  replace h51 := dQ h51
  have hxy : x = y := by simpa using h51
  refine Aj (Ae (Ac (Aa (Ab rfl (I (.ic rfl oQ) (LW.A rfl (LW.nil (Ar ?_))))))))
  exact ⟨k + 1, ⟨by omega, kU hx hy ht hxy, hS.take 2⟩, tQ, by omega⟩
 replace h38 := dQ h38
 refine Bl (Ad (Ad (Aq (Ac (Af (Ay (Ai (Ak (KW.q ?_)))))))))
 exact ⟨by rw [pK hyes (by have hkl : k = p.dec.uses.length := (by omega); rw [hkl, List.take_length, hll, List.take_length] at ht; exact ht)], hS.Cr⟩
theorem Xm (v1 v2 : Go.Value) (l m : List Dec) (w : World) (h1 : yA w v1 l) (h2 : yA w v2 m) (hl : l.length ≤ 100000) (hu0 : ∀ D ∈ l, D.uses.length ≤ 100000) : Ret prog 13 #[v1, v2] w fun r w' => r = .bool (Je l m) ∧ Up w w' := by
 have hW := Up.refl w
 obtain ⟨w0, rfl, _⟩ := W0 w
 obtain ⟨L, ⟨ad1, cp1, rfl, hE1⟩, hL1, hm1⟩ := h1
 obtain ⟨M, ⟨ad2, cp2, rfl, hE2⟩, hL2, hm2⟩ := h2
 have hz1 : L.length = l.length := by rw [← hm1, List.length_map]
 have hz2 : M.length = m.length := by rw [← hm2, List.length_map]
 refine cT 27 func13 rfl (Af (Ay (Ao (Af (Ab rfl (I (.Di underlying32 (.t rfl)) (Ab rfl (I (.Di underlying32 (.t rfl)) (I (.neq (.t rfl) (.t rfl)) (Ai (CW.b rfl (fun h10 => ?_) (fun h10 => ?_))))))))))))
 ·replace h10 := dQ h10
  have hne : l.length ≠ m.length := by simp at h10; omega
  refine Af (Ay (Ai (Ak (Ap (KW.q ?_)))))
  exact ⟨by rw [Ti hne], hW⟩
 replace h10 := dQ h10
 have hlm : l.length = m.length := by simp at h10; omega
 refine Aj (Ac (Am (Af (Ay (Ai (An (A8 (σ := Nat) (fun s w => (s ≤ L.length) ∧ (Je l m = Je (l.drop s) (m.drop s)) ∧ (Up w0 w)) (fun s => [(5, .eq (vi (s : Int)))]) ([(0, .eq _), (1, .eq _)]) (fun s => L.length - s) 0 ?_ tQ ?_)))))))
 ·exact ⟨Nat.zero_le _, rfl, hW⟩
 rintro k w1 ⟨hk, ht, hW⟩
 refine Am (Af (Ab rfl (Ab rfl (I (.Di underlying32 (.t rfl)) (I (.l2 rfl rfl) (Ai (CW.b rfl (fun h14 => ?_) (fun h14 => ?_))))))))
 ·replace h14 := dQ h14
  refine Aj (Ac (Am (An (Am ?_))))
  obtain ⟨x, hx⟩ := Au (xs := L) (i := k) oQ
  obtain ⟨y, hy⟩ := Au (xs := M) (i := k) oQ
  obtain ⟨Bx, ox, ax, hcx⟩ := (Els.up hE1 hW) k x hx
  obtain ⟨By, oy, ay, hcy⟩ := (Els.up hE2 hW) k y hy
  have hdx := yH hm1 hx
  have hdy := yH hm2 hy
  refine C5 kQ kQ rfl rfl (U (.mv rfl) (U (.mv rfl) (U (.Av underlying32 sizeOf44 (.t rfl) (.t rfl) oQ ax) (U (.lc rfl (hcx)) (U (.mv rfl) (U (.mv rfl) (U (.Av underlying32 sizeOf44 (.t rfl) (.t rfl) oQ ay) (U (.lc rfl (hcy)) (HW.c (fun a w _ ha => Ci (.ct rfl (.cu rfl)) (JB) a ha) rfl rfl (fun w hu => pU x y w ((hL1 x (List.mem_of_getElem? hx)).up (hW.trans hu)) ((hL2 y (List.mem_of_getElem? hy)).up (hW.trans hu)) (hu0 _ (List.mem_of_getElem? hdx))) (U (.n1 rfl) (HW.nil ?_)))))))))))
  intro w2 uw2
  replace hW := hW.up uw2
  refine Ac (CW.b rfl (fun h26 => ?_) (fun h26 => ?_))
  ·replace h26 := dQ h26
   have hno : Ie x.dec y.dec = false := by simpa using h26
   refine Af (Ay (Ai (Ak (A9 (Ap (Ap (A9 (Ap (KW.q ?_)))))))))
   exact ⟨by rw [ht, Qm hdx hdy, hno, Bool.false_and], hW⟩
  replace h26 := dQ h26
  have hys : Ie x.dec y.dec = true := by simpa using h26
  refine Aj (Ae (Ac (Aa (Ab rfl (I (.ic rfl oQ) (LW.A rfl (LW.nil (Ar ?_))))))))
  exact ⟨k + 1, ⟨by omega, by rw [ht, Qm hdx hdy, hys, Bool.true_and], hW⟩, tQ, by omega⟩
 replace h14 := dQ h14
 refine Bl (Ad (Ad (Aq (Ac (Af (Ay (Ai (Ak (KW.q ?_)))))))))
 exact ⟨by rw [ht, cU oQ (by omega)], hW⟩
end Go.Proofs.YtgjogglfnkgapaaGreatDoor
