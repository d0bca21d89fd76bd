import Derived.Test.YtbbpkdlehlamlaaGreatDoorKR413
section
namespace Go.Wx
section
variable {P : Program} {n : Nat} {l : Env} {w : World} {fn : Func} {RR : Ending → World → Prop}
theorem KW.retBB {t u : Tmp} {T T' : TypeId} {B B' : Nat} {y x : Value} (hr : fn.results = #[.cell t T, .cell u T']) (hv : lk l t = some (.eq (.pointer (some ⟨B, 0, none⟩)))) (hu : lk l u = some (.eq (.pointer (some ⟨B', 0, none⟩)))) (hT : ∀ w, (isAgg T).run P w = .ok false w) (hy : w.cell? ⟨B, 0, none⟩ = some y)
   (hT' : ∀ w, (isAgg T').run P w = .ok false w) (hx : w.cell? ⟨B', 0, none⟩ = some x) (hR : RR (.returned (.tuple #[y, x])) w) : KW n [] (bodyPost P fn RR .ret) l w := fun a ha =>
 ⟨ha.defers, .tuple #[y, x], by
   have h1 : a.tmps.getD t undef = .pointer (some ⟨B, 0, none⟩) := ha.val _ _ hv
   have h2 : a.tmps.getD u undef = .pointer (some ⟨B', 0, none⟩) := ha.val _ _ hu
   rw [Array.getD_eq_getD_getElem?] at h1 h2
   simp [results, hr, h1, h2, asAddr, run_loadVar1 hT hy, run_loadVar1 hT' hx], hR⟩
theorem KW.retATT {t u s : Tmp} {T : TypeId} {B k : Nat} {cs : Array Value} {x y : Value} (hr : fn.results = #[.cell t T, .tmp u, .tmp s]) (hv : lk l t = some (.eq (.pointer (some ⟨B, 0, none⟩)))) (hu : lk l u = some (.eq x)) (hs' : lk l s = some (.eq y)) (hT : ∀ w, (isAgg T).run P w = .ok true w) (hs : ∀ w, (sizeOf T).run P w = .ok k w) (hk : cs.size = k)
   (hc : AggAt w B 0 cs) (hR : RR (.returned (.tuple #[.agg cs, x, y])) w) : KW n [] (bodyPost P fn RR .ret) l w := fun a ha =>
 ⟨ha.defers, .tuple #[.agg cs, x, y], by
   have h1 : a.tmps.getD t undef = .pointer (some ⟨B, 0, none⟩) := ha.val _ _ hv
   have h2 : a.tmps.getD u undef = x := ha.val _ _ hu
   have h3 : a.tmps.getD s undef = y := ha.val _ _ hs'
   rw [Array.getD_eq_getD_getElem?] at h1 h2 h3
   simp [results, hr, h1, h2, h3, asAddr, run_loadVarA hT hs hk hc], hR⟩
end
theorem Sep.add2 {S0 : Nat → Prop} {w0 w w' : World} {As : List Asr} {A B : Asr} (h : Sep S0 w0 w As) (u : Up w w') (h1 : A.holds w') (h2 : B.holds w') (n1 : ∀ i, A.foot i → w.heap.size ≤ i) (n2 : ∀ i, B.foot i → w.heap.size ≤ i) (hd : ∀ i, A.foot i → ¬ B.foot i) : Sep S0 w0 w' (As ++ [A, B]) := by
 have h3 := h.add u (A' := aAnd [A, B]) ⟨fun C hC => by simp at hC; rcases hC with rfl | rfl <;> assumption, by simpa using hd⟩ (fun i ⟨C, hC, hi⟩ => by simp at hC; rcases hC with rfl | rfl <;> first | exact n1 i hi | exact n2 i hi)
 have h4 := Sep.unfold (Bs := As) (As := [A, B]) (rest := []) h3
 simpa using h4
theorem Sep.snocA {S0 : Nat → Prop} {w0 w : World} {Bs As : List Asr} {A : Asr} (h : Sep S0 w0 w (Bs ++ [aAnd As, A])) : Sep S0 w0 w (Bs ++ [aAnd (As ++ [A])]) := by
 have h1 := Sep.unfold (Bs := Bs) (As := As) (rest := [A]) h
 have h2 := Sep.fold (Bs := Bs) (As := As ++ [A]) (rest := []) (by simpa using h1)
 exact h2
theorem own_blk {α : Type} {enc : α → Array Value} {w : World} {b e k B : Nat} {v : Value} {xs : List α} {cs : Array Value} {T : TypeId} (h : OwnS w b e k enc v xs) (hb : Blk w B cs T) (hT : e ≠ T) : v.ownBlock ≠ some B := fun hv => by
 obtain ⟨h1, h2⟩ := h
 rcases h2 with h2 | ⟨g, cap, cur, rfl, hb2, hg, rest⟩
 · rw [h2.1] at hv; cases hv
 cases hv
 have := hg.symm.trans hb
 cases this
 exact hT rfl
structure DP where
 dec : Dec
 ad : Option Addr
 cp : Nat
def DP.uv (p : DP) : Value := .slice p.ad p.dec.uses.length p.cp
def DP.cells (p : DP) : Array Value := (p.dec.v p.uv).cells
theorem DP.one (p : DP) : p.cells.all (·.oneCell') = true := decV_one _ rfl
def usesA (ti : TypeId) (L : List DP) : List Asr := L.map fun p => aOwn ti 1 eInt p.uv p.dec.uses
theorem usesA_snoc (ti : TypeId) (L : List DP) (p : DP) : usesA ti L ++ [aOwn ti 1 eInt p.uv p.dec.uses] = usesA ti (L ++ [p]) := by unfold usesA; rw [List.map_append]; rfl
theorem usesA_get {ti : TypeId} {L : List DP} {w : World} (h : (aAnd (usesA ti L)).holds w) : ∀ p ∈ L, Sl w p.uv 1 eInt p.dec.uses := fun p hp => OwnS.sl (show OwnS w 0 ti 1 eInt p.uv p.dec.uses from h.1 _ (List.mem_map.2 ⟨p, hp, rfl⟩)) (fun _ => rfl)
def DecE (w : World) (v : Value) (D : Dec) : Prop := ∃ ad cp, v = .agg (DP.cells ⟨D, ad, cp⟩) ∧ Sl w (.slice ad D.uses.length cp) 1 eInt D.uses
def DecsE (w : World) (v : Value) (Ds : List Dec) : Prop := ∃ L : List DP, Sl w v 6 DP.cells L ∧ (∀ p ∈ L, Sl w p.uv 1 eInt p.dec.uses) ∧ L.map DP.dec = Ds
def dec0 : Dec := ⟨0, rz, rz, []⟩
def decAt (b : Base) (t c r : Int) (rs : List Fact) (i : Nat) : Dec := match rs[i]? with
 | some x => { decF b t c r x.Time (rs.take i) with run := x.ID }
 | none => dec0
theorem decAt_some {b : Base} {t c r : Int} {rs : List Fact} {i : Nat} {x : Fact} (h : rs[i]? = some x) : decAt b t c r rs i = { decF b t c r x.Time (rs.take i) with run := x.ID } := by unfold decAt; rw [h]
def desF (b : Base) (t c r : Int) : List Dec := (List.range (rnsF b t c r).length).map (decAt b t c r (rnsF b t c r))
theorem desF_len (b : Base) (t c r : Int) : (desF b t c r).length = (rnsF b t c r).length := by unfold desF; rw [List.length_map, List.length_range]
theorem map_range_succ {α : Type} (f : Nat → α) (k : Nat) : (List.range (k + 1)).map f = (List.range k).map f ++ [f k] := by rw [List.range_succ, List.map_append]; rfl
theorem BaseC.lit {w : World} {bc : Array Value} {b : Base} (h : BaseC w bc b) : ∃ v0 v1 v2 v3 v4 v5 v6 v7 v8 v9 v10, bc = #[v0, v1, v2, v3, v4, v5, v6, v7, v8, v9, v10] := by
 obtain ⟨v0, v1, v2, v3, v4, v5, v6, v7, v8, v9, v10, e, _⟩ := h
 exact ⟨v0, v1, v2, v3, v4, v5, v6, v7, v8, v9, v10, e⟩
theorem decF_uses (b : Base) (t c r time : Int) (a : List Fact) : (decF b t c r time a).uses.length ≤ a.length := Nat.le_trans (sumF_bd b.Measures b.Targets r time (sinceF (resL b t c time) a)).2.2 (sinceF_len _ _)
def IdxD (g : DP → Bool) (l : List DP) (i : Int) : Prop := (∃ k x, i = ((k : Nat) : Int) ∧ l[k]? = some x ∧ g x = true ∧ ∀ y ∈ l.take k, g y = false) ∨ (i = -1 ∧ ∀ y ∈ l, g y = false)
theorem noneD_take {p : DP → Bool} {l : List DP} {k : Nat} {x : DP} (h : l[k]? = some x) (hk : ∀ y ∈ l.take k, p y = false) (hx : p x = false) : ∀ y ∈ l.take (k + 1), p y = false := fun y hy => by
 rw [List.take_add_one, h] at hy
 rcases List.mem_append.1 hy with hy | hy
 · exact hk y hy
 cases List.mem_singleton.1 hy; exact hx
def rtB (a b : Rt) : Bool := (a.n == b.n) && ((a.d == b.d) && true)
theorem rtB_iff (a b : Rt) : rtB a b = true ↔ a = b := by
 obtain ⟨an, ad⟩ := a
 obtain ⟨bn, bd⟩ := b
 unfold rtB
 simp
theorem rtB_self (a : Rt) : rtB a a = true := (rtB_iff a a).2 rfl
def expF (b : Base) (id : Int) : Dec × Bool × Int := match procB b id with
 | none => (dec0, false, 200)
 | some f => match (desF b f.Tool f.Chamber f.Recipe).find? fun D => decide (D.run = id) with
   | none => (dec0, false, 200)
   | some D => (D, decide ((mkF f.Value 1000).2 = 0) && rtB (mkF f.Value 1000).1 D.par, 0)
theorem expF_none {b : Base} {id : Int} (h : procB b id = none) : expF b id = (dec0, false, 200) := by unfold expF; rw [h]
theorem expF_no {b : Base} {id : Int} {f : Fact} {L : List DP} (h : procB b id = some f) (hL : L.map DP.dec = desF b f.Tool f.Chamber f.Recipe) (hn : ∀ y ∈ L, decide (y.dec.run = id) = false) : expF b id = (dec0, false, 200) := by
 have e : ((desF b f.Tool f.Chamber f.Recipe).find? fun D => decide (D.run = id)) = none := by
   rw [← hL]
   refine List.find?_eq_none.2 fun D hD => ?_
   obtain ⟨y, hy, rfl⟩ := List.mem_map.1 hD
   rw [hn y hy]; exact Bool.false_ne_true
 unfold expF; rw [h]; dsimp only; rw [e]
theorem find_map {L : List DP} {k : Nat} {x : DP} {q : Dec → Bool} (hx : L[k]? = some x) (hq : q x.dec = true) (hn : ∀ y ∈ L.take k, q y.dec = false) : (L.map DP.dec).find? q = some x.dec := by
 have hlt := (gQ.1 hx).1
 have e : L = L.take k ++ x :: L.drop (k + 1) := by
   have h1 : L.drop k = x :: L.drop (k + 1) := by
     rw [List.drop_eq_getElem_cons hlt, (gQ.1 hx).2]
   rw [← h1, List.take_append_drop]
 rw [e, List.map_append, List.map_cons, List.find?_append, List.find?_eq_none.2 (fun D hD => by
   obtain ⟨y, hy, rfl⟩ := List.mem_map.1 hD
   rw [hn y hy]; exact Bool.false_ne_true), List.find?_cons, hq]
 rfl
theorem expF_some {b : Base} {id : Int} {f : Fact} {L : List DP} {k : Nat} {x : DP} (h : procB b id = some f) (hL : L.map DP.dec = desF b f.Tool f.Chamber f.Recipe) (hx : L[k]? = some x) (hr : decide (x.dec.run = id) = true) (hn : ∀ y ∈ L.take k, decide (y.dec.run = id) = false) :
   expF b id = (x.dec, decide ((mkF f.Value 1000).2 = 0) && rtB (mkF f.Value 1000).1 x.dec.par, 0) := by
 have e := find_map (q := fun D => decide (D.run = id)) hx hr hn
 rw [hL] at e
 unfold expF; rw [h]; dsimp only; rw [e]
theorem Sep.join {S0 : Nat → Prop} {w0 w w' : World} {As Bs : List Asr} (h : Sep S0 w0 w As) (k : Sep no w w' Bs) : Sep S0 w0 w' (As ++ Bs) := by
 have h3 := h.add k.upd (A' := aAnd Bs) ⟨fun A hA => (k.each A hA).1, k.apart⟩ (fun i ⟨A, hA, hi⟩ => ((k.each A hA).2 i hi).resolve_left (fun h => h))
 have h4 := Sep.unfold (Bs := As) (As := Bs) (rest := []) h3
 simpa using h4
theorem dp_par {w : World} {B o : Nat} {p : DP} (h : AggAt w B o p.cells) : AggAt w B (o + 1) p.dec.par.cells := fun j v hv => by
 have h2 : p.cells[1 + j]? = some v := by
   match j with
   | 0 => simpa [Rt.cells, DP.cells, DecV.cells, Dec.v] using hv
   | 1 => simpa [Rt.cells, DP.cells, DecV.cells, Dec.v] using hv
   | j + 2 => simp [Rt.cells] at hv
 have := h (1 + j) v h2
 rwa [show o + (1 + j) = o + 1 + j by omega] at this
end Go.Wx
namespace Go.Proofs.YtbbpkdlehlamlaaGreatDoor
open Go.Proofs.Tryz
open Go.Wx Go.RowKit
set_option maxRecDepth 4000 in
theorem Tryz.eqRt (a b : Rt) (w : World) : (Op.equalIn 10000 45 (.agg a.cells) (.agg b.cells)).run prog w = .ok (rtB a b) w := by
 have hf : prog.underlying 45 = some (.struct (prog.fieldsOf 45)) := by rw [Program.fieldsOf, underlying45]
 rw [run_equalIn_agg w 9999 45 _ _ hf stoodInHeld45]
 have h : (Op.eqFields 9999 a.cells b.cells (prog.fieldsOf 45).toList).run prog w = .ok (rtB a b) w := by
   rw [Program.fieldsOf, underlying45]
   dsimp only
   iterate 2 (refine eqStep cQ isAgg3 rfl rfl (run_equalIn_int w 9998 _ _ _ _ _ underlying3) ?_)
   rfl
 exact h
theorem desD_any (B3 B2 : Nat) (w : World) (ho : Blk w B3 #[vi 0] 49) : RetD prog 83 #[.pointer (some ⟨B3, 0, none⟩), .pointer (some ⟨B2, 0, none⟩)] w fun w' => Stp (aBlk B3 #[vi 0] 49) (aBlk B3 #[vi 0] 49) w w' := by
 obtain ⟨w0, rfl⟩ : ∃ w0, w0 = w := ⟨_, rfl⟩
 have hS : Wx.Sep (aBlk B3 #[vi 0] 49).foot w0 w0 [aBlk B3 #[vi 0] 49] := Sep.cons ho (fun _ h => h) (Sep.start _ _) (by simp)
 refine CallsD_start (n := 6) (args := [.pointer (some ⟨B3, 0, none⟩), .pointer (some ⟨B2, 0, none⟩)]) func83 rfl rfl rfl (DW.seq (m := 9) (DW.region (DL.rec (fun a => run_recover) rfl rfl rfl (DL.c (eC (.o rfl) (en48)) rfl rfl rfl rfl (failed0_any _) ?_))))
 rintro _ w1 ⟨rfl, uw1⟩
 replace hS := hS.up uw1
 refine DL.s (SEv.store sizeOf49 (.t rfl) (.t rfl) rfl (hS.blk 0 rfl) (zQ rfl)) rfl rfl rfl ?_
 intro w2 Nw2
 replace hS := hS.putB 0 rfl (show Set_ _ w2 _ (#[vi 0]) _ from Nw2)
 refine DL.nil (KW.then (CW.S (LW.pp (.ld isAgg49 rfl ((hS.blk 0 rfl).celln rfl)) (LW.pp (.neq (.t rfl) (.const _)) (LW.T (CW.cond_false (.t rfl) (CW.skip (KW.end0 rfl ⟨_, rfl, ?_⟩))))))))
 exact ⟨hS.fr, hS.get 0 rfl, fun _ h => .inl h⟩
theorem decisions_any (bc : Array Go.Value) (b : Base) (t c r : Int) (w : World) (hC : BaseC w bc b) (hlP : b.Processes.length ≤ 400) (hlR : b.Resets.length ≤ 100000) (hlM : b.Measures.length ≤ 100000) (hlT : b.Targets.length ≤ 100000) : Ret prog 44 #[.agg (placeC bc t c r)] w fun r0 w' => ∃ v L, r0 = .tuple #[v, vi 0] ∧ L.map DP.dec = desF b t c r ∧ Wx.Sep no w w' [aOwn 48 6 DP.cells v L, aAnd (usesA 3 L)] := by
 obtain ⟨w0, rfl⟩ : ∃ w0, w0 = w := ⟨_, rfl⟩
 have hS := Sep.start no w0
 refine Calls_startD (n := 34) (m := 9) func44 rfl rfl rfl (CW.S (LW.rr (.boxA (.t rfl)) rfl ?_))
 rintro _ w1 ⟨B1, rfl, NB1⟩
 replace hS := hS.addB NB1
 refine LW.rr (.alloc1 zeroValue38 rfl) rfl ?_
 rintro _ w2 ⟨B2, rfl, NB2⟩
 replace hS := hS.addB NB2
 refine LW.rr (.alloc1 zeroValue49 rfl) rfl ?_
 rintro _ w3 ⟨B3, rfl, NB3⟩
 replace hS := hS.addB NB3
 refine LW.S (CW.region (LW.pp (.makeFunc (.cons (.t rfl) (.cons (.t rfl) .nil))) (LW.deferC (.t rfl) (LW.S (CW.region (LW.pp (.loadA isAgg99 sizeOf99 ((placeC_size hC t c r)) (.t rfl) ((hS.blk 0 rfl).agg)) (LW.K (eC (.o rfl) (en51)) rfl (runs_any bc b t c r _ (hC.up hS.upd) oQ) ?_)))))))
 rintro v10 w4 ⟨hO10, uw4⟩
 replace hS := hS.add uw4 (A' := aOwn 24 19 Fact.cells v10 (rnsF b t c r)) (hO10.mono (Nat.zero_le _)) (fun i h => (hO10.base i h))
 obtain ⟨rs, ers⟩ : ∃ R, R = rnsF b t c r := ⟨_, rfl⟩
 have hrl := rnsF_len b t c r
 rw [← ers] at hS hrl
 obtain ⟨ad10, cp10, rfl, _⟩ := (hS.own 3 rfl).sl (fun _ => rfl)
 refine LW.A rfl (LW.S (CW.seq ?_))
 replace hS := hS.add (Up.refl _) (A' := aOwn 48 6 DP.cells (.slice none 0 0) ([] : List DP)) (OwnS.nil _ _ _ _ _) (by intro i h; cases h)
 replace hS := hS.add (Up.refl _) (A' := aAnd (usesA 3 [])) ⟨by simp [usesA], by simp [usesA]⟩ (by rintro i ⟨A, hA, _⟩; simp [usesA] at hA)
 refine CW.region (LW.M rfl (LW.pp (.lenS underlying26 (.t rfl)) (LW.pp (.move (.const _)) (LW.T (CW.block (CW.loopB (σ := Nat × Go.Value × List DP) (fun s w => (s.1 ≤ rs.length) ∧ (s.2.2.map DP.dec = (List.range s.1).map (decAt b t c r rs)) ∧ (Wx.Sep no w0 w [aBlk B1 (placeC bc t c r) 99, aBlk B2 #[s.2.1] 38, aBlk B3 #[vi 0] 49, aOwn 24 19 Fact.cells (.slice ad10 rs.length cp10) rs, aOwn 48 6 DP.cells s.2.1 s.2.2, aAnd (usesA 3 s.2.2)])) (fun s => [(13, .eq (vi (s.1 : Int)))]) ([(1, .eq _), (2, .eq _), (3, .eq _), (4, .eq _), (11, .eq _), (12, .eq _)]) (fun s => rs.length - s.1) (0, .slice none 0 0, []) ?_ ⟨rfl, rfl, rfl, rfl, rfl, rfl, rfl, trivial⟩ ?_))))))
 ·exact ⟨Nat.zero_le _, rfl, hS⟩
 rintro ⟨k, v, L⟩ w5 ⟨hk, hL, hS⟩
 have hLl : L.length = k := by have h := congrArg List.length hL; simpa using h
 change CW _ _ _ _ _ _ _ ([(13, .eq (vi (k : Int)))] ++ _) _
 refine CW.S (LW.pp (.lss (.t rfl) (.t rfl)) (LW.S (CW.cond (.t rfl) (fun h14 => ?_) (fun h14 => ?_))))
 ·replace h14 := dQ h14
  refine CW.skip (KW.then (CW.seq (CW.block (CW.seq ?_))))
  have hR : Els w5 ad10 19 Fact.cells rs := (hS.own 3 rfl).els (fun _ => rfl)
  refine CW.region (LW.M rfl ?_)
  obtain ⟨x, hx⟩ := getElem?_of_lt (xs := rs) (i := k) oQ
  obtain ⟨Bx, ox, ax, hcx⟩ := hR _ x hx
  refine LW.pp (.indexAddr' underlying26 sizeOf24 (.t rfl) (.t rfl) oQ ax) (LW.pp (.la isAgg24 sizeOf24 rfl (hcx)) (LW.rr (.allocA zeroValue24) rfl ?_))
  rintro _ w6 ⟨B6, rfl, MB6⟩
  refine LW.A rfl (LW.E (.storeA sizeOf24 rfl (.t rfl) (.t rfl) (Fact.one _) MB6.blk rfl) ?_)
  intro w7 LB6
  have NB6 := MB6.set LB6
  replace hcx := hcx.up NB6.up
  replace hS := hS.addB NB6
  refine LW.S (CW.free 8 [.eq (.agg (placeC bc t c r)), .eq (.pointer (some ⟨B6, 5, none⟩)), .eq (vi x.Time), .eq (.slice ad10 rs.length cp10), .eq (vi (k : Int)), .eq (.slice ad10 (rs.take k).length cp10), .pred fun v W => ∃ ad cp, v = .agg (DP.cells ⟨decF b t c r x.Time (rs.take k), ad, cp⟩) ∧ OwnS W w7.drew.heap.size 3 1 eInt (.slice ad (decF b t c r x.Time (rs.take k)).uses.length cp) (decF b t c r x.Time (rs.take k)).uses, .pred fun v W => ∃ B, v = .pointer (some ⟨B, 0, none⟩) ∧ w7.drew.heap.size ≤ B ∧ Blk W B (DP.cells ⟨dec0, none, 0⟩) 48] [7, 24] kQ rfl kQ kQ kQ kQ kQ kQ kQ ⟨PhU.eq _, PhU.eq _, PhU.eq _, PhU.eq _, PhU.eq _, PhU.eq _, PhU.pred fun _ _ _ h u => let ⟨ad, cp, e, hb⟩ := h; ⟨ad, cp, e, hb.up u⟩, PhU.pred fun _ _ _ h u => let ⟨B, e, hz, hb⟩ := h; ⟨B, e, hz, hb.up u⟩, trivial⟩ ?_ ?_)
  ·intro W hU0
   have hU := (Up.drew w7).trans hU0
   have hSW := hS.up hU
   have zU0 := hU0.size
   have hcp := (hSW.own 3 rfl).lcp
   have hEW : Els W ad10 19 Fact.cells rs := (hSW.own 3 rfl).els (fun _ => rfl)
   refine aC ⟨rfl, TU.p (.loadA isAgg99 sizeOf99 (placeC_size hC t c r) (.t rfl) ((hSW.blk 0 rfl).agg)) rfl⟩ (aC ⟨rfl, TU.p (.fA 5 underlying24 rfl sizeOf3 rfl) rfl⟩ (aC ⟨rfl, TU.p (.ld isAgg3 rfl ((hSW.blk 6 rfl).celln rfl)) rfl⟩ (aC ⟨rfl, TU.p (.move (.t rfl)) rfl⟩ (aC ⟨rfl, TU.p (.move (.t rfl)) rfl⟩ (aC ⟨rfl, TU.p (.vl (PEv.sliceHi underlying26 sizeOf24 (.t rfl) (.t rfl) oQ) (by rw [List.length_take, Nat.min_eq_left (by omega)])) rfl⟩ (aC ⟨rfl, TU.c (eC (.cons (.t rfl) (.cons (.t rfl) (.cons (.t rfl) .nil))) (en49)) (decide_any bc b t c r x.Time ad10 cp10 (rs.take k) W (hC.up (hS.upd.trans hU)) (Els.take hEW) (by rw [List.length_take]; omega) hlR hlM hlT) (by rintro v W1 ⟨u_, rfl, ho, hu⟩; obtain ⟨adu, cpu, rfl, _⟩ := ho.sl (fun _ => rfl); exact ⟨hu, adu, cpu, rfl, ho.mono zU0⟩)⟩ (aC ⟨rfl, TU.r (REv.allocA zeroValue48) (fun v W' h => let ⟨B, e, N⟩ := h; ⟨N.up, B, e, by rw [N.at_]; exact zU0, N.blk⟩)⟩ ?_)))))))
   exact allL.nil
  intro w8 g hU0 hg
  have hU := (Up.drew w7).trans hU0
  obtain ⟨B7, e7, z7, hB7⟩ : ∃ B, g 7 = .pointer (some ⟨B, 0, none⟩) ∧ w7.drew.heap.size ≤ B ∧ Blk w8 B (DP.cells ⟨dec0, none, 0⟩) 48 := hg 7 _ 7 cQ rfl rfl
  obtain ⟨ad7, cp7, e24, ho7⟩ : ∃ ad cp, g 24 = .agg (DP.cells ⟨decF b t c r x.Time (rs.take k), ad, cp⟩) ∧ OwnS w8 w7.drew.heap.size 3 1 eInt (.slice ad (decF b t c r x.Time (rs.take k)).uses.length cp) (decF b t c r x.Time (rs.take k)).uses := hg 6 _ 24 cQ rfl rfl
  change LW _ _ _ _ _ _ _ _ ((7, .eq (g 7)) :: (24, .eq (g 24)) :: _) _
  rw [e7, e24]
  replace hS := (hS.up (Up.drew _)).add2 hU0 (A := aBlk B7 (DP.cells ⟨dec0, none, 0⟩) 48) (B := aOwn 3 1 eInt (.slice ad7 (decF b t c r x.Time (rs.take k)).uses.length cp7) (decF b t c r x.Time (rs.take k)).uses) hB7 (ho7.mono (Nat.zero_le _)) (fun i (e : i = B7) => by omega) (fun i h => ho7.base i h) (fun i (e : i = B7) h2 => own_blk ho7 hB7 cQ (e ▸ h2))
  refine LW.E (.storeA sizeOf48 rfl (.t rfl) (.t rfl) (DP.one _) (hS.blk 7 rfl) rfl) ?_
  intro w9 Nw9
  replace hS := hS.putB 7 rfl (show Set_ _ w9 _ (DP.cells ⟨decF b t c r x.Time (rs.take k), ad7, cp7⟩) _ from Nw9)
  refine LW.S (CW.region (LW.pp (.fA 1 underlying24 rfl sizeOf3 rfl) (LW.pp (.ld isAgg3 rfl ((hS.blk 6 rfl).celln rfl)) (LW.pp (.fA 0 underlying48 rfl sizeOf3 rfl) (LW.E (.store sizeOf3 (.t rfl) (.t rfl) rfl (hS.blk 7 rfl) (zQ rfl)) ?_)))))
  intro w10 Nw10
  replace hS := hS.putB 7 rfl (show Set_ _ w10 _ (DP.cells ⟨{ decF b t c r x.Time (rs.take k) with run := x.ID }, ad7, cp7⟩) _ from Nw10)
  refine LW.T (CW.region (LW.pp (.ld isAgg38 rfl ((hS.blk 1 rfl).celln rfl)) (LW.pp (.la isAgg48 sizeOf48 rfl ((hS.blk 7 rfl).agg)) (LW.rr (.buildSlice (xs := [(⟨{ decF b t c r x.Time (rs.take k) with run := x.ID }, ad7, cp7⟩ : DP)]) (enc := DP.cells) (mk := fun p => .agg p.cells) underlying38 sizeOf48 zeroValue48 rfl cQ (fun _ => rfl) (fun _ => rfl) (.cons (.t rfl) .nil) rfl) rfl ?_))))
  rintro _ w11 ⟨B30, cB30, rfl, NB30, yB30, xB30⟩
  replace hS := hS.up NB30.up
  have hE30 := xB30
  refine LW.rr (.appendF (enc := DP.cells) (bytes := 64) (i := Tryz.t48) underlying38 kQ rfl rfl rfl rfl cQ (fun _ => rfl) DP.one (.t rfl) (.t rfl) (hS.own 4 rfl) (Sl.of_els hE30) (by simp [maxLen]; omega) (by simp; omega)) rfl ?_
  intro v31 w12 Gw12
  replace hS := hS.stp 4 rfl Gw12
  refine LW.E (.store sizeOf38 (.t rfl) (.t rfl) ((hS.own 4 rfl).oneV (fun _ => rfl)) (hS.blk 1 rfl) (zQ rfl)) ?_
  intro w13 Nw13
  replace hS := hS.putB 1 rfl (show Set_ _ w13 _ (#[v31]) _ from Nw13)
  refine LW.nil (KW.inBlock (KW.then ?_))
  have h9 := Sep.snocA (Bs := [_, _, _, _, _]) (hS.sub (.cons_cons _ (.cons_cons _ (.cons_cons _ (.cons_cons _ (.cons_cons _ (.cons_cons _ (.cons _ (.cons _ (.cons_cons _ .slnil))))))))))
  replace h9 : Wx.Sep no w0 w13 ([_, _, _, _, _] ++ [aAnd (usesA 3 L ++ [aOwn 3 1 eInt (DP.uv ⟨{ decF b t c r x.Time (rs.take k) with run := x.ID }, ad7, cp7⟩) (DP.dec ⟨{ decF b t c r x.Time (rs.take k) with run := x.ID }, ad7, cp7⟩).uses])]) := h9
  rw [usesA_snoc] at h9
  refine CW.region (LW.pp (.inc (.t rfl) oQ) (LW.M rfl (LW.nil (KW.round ?_))))
  exact ⟨(k + 1, v31, L ++ [(⟨{ decF b t c r x.Time (rs.take k) with run := x.ID }, ad7, cp7⟩ : DP)]), ⟨by show k + 1 ≤ _; omega, by rw [List.map_append, map_range_succ, hL, decAt_some hx]; rfl, h9⟩, ⟨rfl, rfl, rfl, rfl, rfl, rfl, rfl, trivial⟩, by show rs.length - (k + 1) < rs.length - k; omega⟩
 replace h14 := dQ h14
 refine CW.exit (KW.then_exit (KW.then_exit (KW.block_hit (KW.then (CW.S (LW.pp (.ld isAgg38 rfl ((hS.blk 1 rfl).celln rfl)) (LW.E (.store sizeOf38 (.t rfl) (.t rfl) ((hS.own 4 rfl).oneV (fun _ => rfl)) (hS.blk 1 rfl) (zQ rfl)) ?_)))))))
 intro w14 Nw14
 replace hS := hS.putB 1 rfl (show Set_ _ w14 _ (#[v]) _ from Nw14)
 refine LW.E (.store sizeOf49 (.t rfl) (.const _) rfl (hS.blk 2 rfl) (zQ rfl)) ?_
 intro w15 Nw15
 replace hS := hS.putB 2 rfl (show Set_ _ w15 _ (#[vi 0]) _ from Nw15)
 refine LW.T (CW.ret (KW.door (f := 83) (args := #[.pointer (some ⟨B3, 0, none⟩), .pointer (some ⟨B2, 0, none⟩)]) (by exact (en83 _ _)) rfl (desD_any B3 B2 _ (hS.blk 2 rfl)) (fun w9 u9 => ?_)))
 replace hS := hS.stp 2 rfl u9
 refine KW.retBB rfl rfl rfl isAgg38 ((hS.blk 1 rfl).celln rfl) isAgg49 ((hS.blk 2 rfl).celln rfl) ⟨_, rfl, ?_⟩
 have hkl : k = rs.length := by omega
 exact ⟨v, L, rfl, by rw [hL, hkl, ers]; rfl, hS.sub (.cons _ (.cons _ (.cons _ (.cons _ (.cons_cons _ (.cons_cons _ .slnil))))))⟩
theorem Decisions_any (bc : Array Go.Value) (b : Base) (t c r : Int) (w : World) (hC : BaseC w bc b) (hlP : b.Processes.length ≤ 400) (hlR : b.Resets.length ≤ 100000) (hlM : b.Measures.length ≤ 100000) (hlT : b.Targets.length ≤ 100000) : Ret prog 16 #[.agg bc, vi t, vi c, vi r] w fun r0 w' => ∃ v L, r0 = v ∧ L.map DP.dec = desF b t c r ∧ Wx.Sep no w w' [aOwn 48 6 DP.cells v L, aAnd (usesA 3 L)] := by
 obtain ⟨w0, rfl⟩ : ∃ w0, w0 = w := ⟨_, rfl⟩
 have hS := Sep.start no w0
 obtain ⟨v0, v1, v2, v3, v4, v5, v6, v7, v8, v9, v10, rfl⟩ := hC.lit
 refine cS (n := 21) (m := 9) func16 rfl rfl rfl (CW.S (LW.rr (.boxA (.t rfl)) rfl ?_))
 rintro _ w1 ⟨B4, rfl, NB4⟩
 replace hS := hS.addB NB4
 refine LW.C (LW.S (CW.region (LW.pp (.la isAgg32 sizeOf32 rfl ((hS.blk 0 rfl).agg)) (LW.M rfl (LW.M rfl (LW.M rfl (LW.pp (.build (cs := placeC #[v0, v1, v2, v3, v4, v5, v6, v7, v8, v9, v10] t c r) underlying99 zeroValue99 Tryz.places99 (.cons (.t rfl) (.cons (.t rfl) (.cons (.t rfl) (.cons (.t rfl) .nil)))) kQ) (LW.K (eC (.o rfl) (en44)) rfl (decisions_any #[v0, v1, v2, v3, v4, v5, v6, v7, v8, v9, v10] b t c r _ (hC.up hS.upd) hlP hlR hlM hlT) ?_))))))))
 rintro _ w2 ⟨v17, L, rfl, hLm, hT⟩
 replace hS := hS.join hT
 refine LW.M rfl (LW.pp (.extract (.t rfl) rfl) (LW.pp (.extract (.t rfl) rfl) (LW.A rfl (LW.A rfl (LW.S (CW.region (LW.M rfl (LW.A rfl (LW.T (CW.ret (KW.ret1 rfl rfl ⟨_, rfl, ?_⟩)))))))))))
 exact ⟨v17, L, rfl, hLm, hS.sub (.cons _ (.cons_cons _ (.cons_cons _ .slnil)))⟩
end Go.Proofs.YtbbpkdlehlamlaaGreatDoor
end
section
namespace Go.Wx
open Go.RowKit
section
variable {R : Option Nat} {m : Nat} {P : Program} {n : Nat} {ds : List Deferred} {Q : Exit → Go.Act → World → Prop} {l : Env} {w : World}
def TW (P : Program) (n : Nat) (ds : List Deferred) (ops : Array Oper) (env : Env) (W : World) (o : Oper) (v : Value) : Prop := ∀ a, Ag n ds env a W → if Region.wanted o (yielded ops a.tmps) = true then OpY P o a W (fun u W' => Up W W' ∧ u = v) else v = undef
section
variable {ops : Array Oper} {env : Env} {W : World} {o : Oper} {v : Value}
theorem TW.p (h : PEv P n ds env W o v) (hg : o.guard = none) : TW P n ds ops env W o v := fun a ha => by
 rw [if_pos (by simp [Region.wanted, hg])]
 exact .inl ⟨v, W, h a W ha (Up.refl W), Up.refl W, rfl⟩
theorem TW.yp {j dj : Nat} {oj : Oper} {want : Bool} (h : PEv P n ds env W o v) (hg : o.guard = some (j, want)) (hj : ops[j]? = some oj) (hdj : oj.dst = some dj) (hdn : Nat.ble (dj + 1) n = true) (hb : lk env dj = some (.eq (.bool want))) : TW P n ds ops env W o v := fun a ha => by
 have hw := wanted_of (o := o) (ops := ops) (a := a) hg hj hdj (by rw [ha.size]; exact zQ hdn) (ha.val _ _ hb)
 have e : (want == want) = true := by cases want <;> rfl
 rw [hw, e, if_pos rfl]
 exact .inl ⟨v, W, h a W ha (Up.refl W), Up.refl W, rfl⟩
theorem TW.no {j dj : Nat} {oj : Oper} {want b : Bool} (hg : o.guard = some (j, want)) (hj : ops[j]? = some oj) (hdj : oj.dst = some dj) (hdn : Nat.ble (dj + 1) n = true) (hb : lk env dj = some (.eq (.bool b))) (hne : (b == want) = false) : TW P n ds ops env W o undef := fun a ha => by
 have hw := wanted_of (o := o) (ops := ops) (a := a) hg hj hdj (by rw [ha.size]; exact zQ hdn) (ha.val _ _ hb)
 rw [hw, hne, if_neg Bool.false_ne_true]
end
theorem CW.freeS {id : Nat} {opsL : List Oper} (k h : Nat) (vs : List Value) (keep : List Nat) (S : Nat → Prop) (PreH PostH : World → Prop) (hm : P.follows .mixedOrders = true) (hl : noPred l = true)
   (hA : aheadOK opsL.toArray = true) (hC : (Nat.beq k opsL.toArray.size || closOK opsL.toArray k) = true) (hF : farOK opsL.toArray k = true) (hks : Nat.ble k opsL.toArray.size = true) (hD : dstOK' n opsL.toArray 0 k = true) (hTl : tailOK opsL.toArray k = true)
   (hfree : freeOK l (opsL.take k) = true) (hhk : Nat.ble (h + 1) k = true) (hPr : PreH w.drew) (hRU : ∀ W W', PreH W → Up W W' → PreH W') (hPU : ∀ W W', PostH W → Up W W' → PostH W')
   (hop : ∀ W, Fr S w.drew W → allL (fun i o => (i ≠ h → TW P n ds opsL.toArray (knp opsL.toArray (fun i => .eq (vs.getD i undef)) 0 o ++ l) W o (vs.getD i undef)) ∧
     (i = h → (PreH W → SEv P n ds (knp opsL.toArray (fun i => .eq (vs.getD i undef)) 0 o ++ l) W o (fun W' => Fr S W W' ∧ PostH W')) ∧ o.guard = none ∧ o.dst = none)) 0 (opsL.take k))
   (hend : ∀ W, Fr S w.drew W → PostH W → LW R m P n ds opsL.toArray Q (opsL.drop k) (keep.map (fun i => (((opsL[i]?).bind (·.dst)).getD 0, .eq (vs.getD i undef))) ++ l) W)
   (hkp : (keep.all fun i => Nat.ble (i + 1) k && ((opsL[i]?).bind (·.dst)).isSome) = true) :
   CW R m P n ds (.region id opsL.toArray true) Q l w := by
 have hks' : k ≤ opsL.length := by have := zQ hks; simp at this; omega
 have sub : ∀ j o, j < k → opsL.toArray[j]? = some o → (opsL.take k)[j]? = some o := fun j o hjk ho => by
   rw [List.getElem?_take_of_lt hjk]; simpa using ho
 have hbd : ∀ i ph, lk l i = some ph → ∀ (j : Nat) (o : Oper), 0 ≤ j → j < k → opsL.toArray[j]? = some o → o.dst ≠ some i := fun i ph hi j o _ hjk ho => freeOK_at hfree hi (List.mem_of_getElem? (sub j o hjk ho))
 refine CW.draws_up hm hl fun fuel listed a hf hu ha => (AWF.gen (k := k) (fun i => .eq (vs.getD i undef)) (Fr S) (fun L _ W => ((L h = true → PostH W) ∧ (L h = false → PreH W)) ∧ Fr S w.drew W) (f0 := fun t => a.tmps.getD t undef) (Fr.refl S) (fun _ _ _ => Fr.trans) (fun i v w w' h u => h) hA hC hF hks (by simp) hD hl hbd ?_ ⟨⟨fun hh => by simp at hh, fun _ => hPr⟩, Fr.refl _ _⟩ ?_ fuel listed a hf hu ha (fun _ => rfl))
 · intro i o _ hi hio L f W hU0 hDn hLi hed hInv a ha hsl
   have hU := hInv.2
   have h3 := (hop W hU).at (sub i o hi hio)
   rw [Nat.zero_add] at h3
   by_cases ih : i = h
   · obtain ⟨h4, hg, hd⟩ := h3.2 ih
     rw [if_pos (by simp [Region.wanted, hg])]
     obtain ⟨W', hr, hf', hp⟩ := h4 (hInv.1.2 (by rw [← ih]; exact hLi)) a ha
     exact .inr ⟨W', hr, hf', (fun d e => nomatch (hd.symm.trans e)), ⟨fun _ => hp, fun hh => by rw [ih] at hh; simp [setL] at hh⟩, hU.trans hf'⟩
   have h4 := h3.1 ih a ha
   have done : ∀ v W', Up W W' ∧ v = vs.getD i undef → Fr S W W' ∧ (∀ d, o.dst = some d → (Ph.eq (vs.getD i undef)).holds v W') ∧ ((setL L i h = true → PostH W') ∧ (setL L i h = false → PreH W')) ∧ Fr S w.drew W' := fun v W' hv =>
     ⟨hv.1.fr S, fun _ _ => hv.2, ⟨fun hh => hPU W W' (hInv.1.1 (by simpa [setL, Ne.symm ih] using hh)) hv.1, fun hh => hRU W W' (hInv.1.2 (by simpa [setL, Ne.symm ih] using hh)) hv.1⟩, hU.trans (hv.1.fr S)⟩
   split at h4
   · rename_i hw
     rw [if_pos hw]
     rcases h4 with ⟨v, W', hr, hp⟩ | ⟨fn, args, w1, hr, hc⟩
     · exact .inl (.inl ⟨v, W', hr, done v W' hp⟩)
     exact .inl (.inr ⟨fn, args, w1, hr, hc.mono done⟩)
   rename_i hw
   rw [if_neg hw]
   exact done undef W ⟨Up.refl W, h4.symm⟩
 intro f W hR hInv fuel' listed' a' hf' hu' ha' hsl'
 refine tail_order hTl hA (opsL.toArray.size - k) k fuel' listed' a' W rfl (by simp; omega) (Nat.le_refl _) hf' hu' (hend W hInv.2 (hInv.1.1 (decide_eq_true (zQ hhk))) a' ⟨ha'.defers, ha'.size, fun t q ht => ?_⟩)
 rcases lk_append ht with h1 | h1
 · obtain ⟨i, hi, he⟩ := List.mem_map.1 (lk_mem h1)
   cases he
   have hk1 := List.all_eq_true.1 hkp i hi
   rw [Bool.and_eq_true] at hk1
   have hik : i < k := zQ hk1.1
   cases ho : opsL[i]? with
   | none => rw [ho] at hk1; cases hk1.2
   | some o =>
     rw [ho] at hk1
     cases hd : o.dst with
     | none => simp [hd] at hk1
     | some d =>
       have ho' : opsL.toArray[i]? = some o := by simpa using ho
       have hmem : (d, Ph.eq (vs.getD i undef)) ∈ allP opsL.toArray (fun i => .eq (vs.getD i undef)) 0 k := by
         unfold allP
         rw [List.mem_filterMap]
         exact ⟨i, List.mem_range.2 hik, by rw [if_pos (by simp), ho']; simp [hd]⟩
       obtain ⟨q', hq⟩ := lk_of_mem hmem
       obtain ⟨j, p, _, hjk, hp, hpd, e⟩ := allP_at hq
       have : j = i := by
         by_cases ee : j = i
         · exact ee
         exact absurd hpd ((dstOK'_at hD (Nat.zero_le _) hik ho' hd).2 j p (Nat.zero_le _) hjk ee hp)
       subst this
       have h5 := ha'.val d q' (lk_left hq)
       rw [e] at h5
       have e6 : (((some o).bind fun x => x.dst).getD 0) = d := by simp [hd]
       rw [e6]
       exact h5
 refine ha'.val t q ?_
 rw [lk_right]
 · exact h1
 cases hq : lk (allP opsL.toArray (fun i => .eq (vs.getD i undef)) 0 k) t with
 | none => rfl
 | some q' =>
   obtain ⟨j, p, _, hjk, hp, hpd, _⟩ := allP_at hq
   exact absurd hpd (hbd t q h1 j p (Nat.zero_le _) hjk hp)
end
end Go.Wx
end
section
namespace Go.Wx
theorem mkFno {n d : Int} (h : fitsF n d = false) : mkF n d = (rt0, 30) := if_neg (by rw [h]; exact Bool.false_ne_true)
theorem procB_mem {b : Base} {id : Int} {f : Fact} (h : procB b id = some f) : f ∈ b.Processes := List.mem_of_find?_eq_some h
end Go.Wx
namespace Go.Proofs.YtbbpkdlehlamlaaGreatDoor
open Go.Proofs.Tryz
open Go.Wx Go.RowKit
theorem indexD_any (cf : Nat) (lb : Array Go.Value) (p : DP → Bool) (hen : ∀ args w, (callFunc cf args).run prog w = .ok (.enter cf args) w) (ad : Option Addr) (cp : Nat) (l : List DP) (w : World) (hE0 : Els w ad 6 DP.cells l) (hl : l.length ≤ 100000) (hp : ∀ W, Up w W → ∀ x, Ret prog cf (#[.agg (DP.cells x)] ++ lb) W fun r W' => r = .bool (p x) ∧ Up W W') : Ret prog 55 #[.slice ad l.length cp, .func (.func cf) #[] lb] w fun r w' => ∃ i, r = vi i ∧ IdxD p l i ∧ Up w w' := by
 have hW := Up.refl w
 obtain ⟨w0, rfl⟩ : ∃ w0, w0 = w := ⟨_, rfl⟩
 refine cS (n := 19) (m := 9) func55 rfl rfl rfl (CW.S (LW.C (LW.S (CW.S (LW.M rfl (LW.pp (.lenS underlying38 (.t rfl)) (LW.pp (.move (.const _)) (LW.T (CW.block (CW.loopB (σ := Nat) (fun s w => (s ≤ l.length) ∧ (∀ y ∈ l.take s, p y = false) ∧ (Up w0 w)) (fun s => [(8, .eq (vi (s : Int)))]) ([(0, .eq _), (1, .eq _), (7, .eq _)]) (fun s => l.length - s) 0 ?_ ⟨rfl, rfl, rfl, rfl, trivial⟩ ?_))))))))))
 ·exact ⟨Nat.zero_le _, by simp, hW⟩
 rintro k w1 ⟨hk, hn, hW⟩
 refine CW.S (LW.pp (.lss (.t rfl) (.t rfl)) (LW.S (CW.cond (.t rfl) (fun h9 => ?_) (fun h9 => ?_))))
 ·replace h9 := dQ h9
  refine CW.skip (KW.then (CW.seq (CW.block (CW.S (LW.M rfl (LW.A rfl (LW.S ?_)))))))
  have hE := Els.up hE0 hW
  refine CW.region (LW.M rfl (LW.M rfl (LW.M rfl ?_)))
  obtain ⟨x, hx⟩ := getElem?_of_lt (xs := l) (i := k) oQ
  obtain ⟨Bx, ox, ax, hcx⟩ := hE _ x hx
  refine LW.pp (.indexAddr' underlying38 sizeOf48 (.t rfl) (.t rfl) oQ ax) (LW.pp (.la isAgg48 sizeOf48 rfl (hcx)) (LW.K (enter_call (.t rfl) (.cons (.t rfl) .nil) (hen)) rfl (hp _ hW x) ?_))
  rintro _ w2 ⟨rfl, uw2⟩
  replace hW := hW.up uw2
  replace hcx := hcx.up uw2
  refine LW.T (CW.cond (.t rfl) (fun h16 => ?_) (fun h16 => ?_))
  ·replace h16 := dQ h16
   refine CW.S (LW.M rfl (LW.A rfl (LW.T (CW.ret (KW.block_ret (KW.then_ret (KW.then_ret (KW.block_ret (KW.then_ret (KW.ret1 rfl rfl ⟨_, rfl, ?_⟩))))))))))
   exact ⟨_, rfl, .inl ⟨k, x, rfl, hx, by simpa using h16, hn⟩, hW⟩
  replace h16 := dQ h16
  refine CW.skip (KW.inBlock (KW.then (CW.region (LW.pp (.inc (.t rfl) oQ) (LW.M rfl (LW.nil (KW.round ?_)))))))
  exact ⟨k + 1, ⟨by omega, noneD_take hx hn (by simpa using h16), hW⟩, ⟨rfl, rfl, rfl, rfl, trivial⟩, by omega⟩
 replace h9 := dQ h9
 refine CW.exit (KW.then_exit (KW.then_exit (KW.block_hit (KW.then (CW.S (LW.C (LW.T (CW.ret (KW.ret1 rfl rfl ⟨_, rfl, ?_⟩)))))))))
 exact ⟨-1, rfl, .inr ⟨rfl, by rw [show k = l.length by omega, List.take_length] at hn; exact hn⟩, hW⟩
theorem expl1_any (x : DP) (id : Int) (B : Nat) (w : World) (hB : Blk w B #[vi id] 3) : Ret prog 56 #[.agg (DP.cells x), .pointer (some ⟨B, 0, none⟩)] w fun r w' => r = .bool (decide (x.dec.run = id)) ∧ Up w w' := by
 have hW := Up.refl w
 refine cS (n := 8) (m := 9) func56 rfl rfl rfl (CW.S (LW.rr (.boxA (.t rfl)) rfl ?_))
 rintro _ w1 ⟨B2, rfl, NB2⟩
 replace hB := hB.up NB2.up
 replace hW := hW.up NB2.up
 have hB2 := NB2.blk
 refine LW.C (LW.S (CW.region (LW.pp (.fA 0 underlying48 rfl sizeOf3 rfl) (LW.pp (.ld isAgg3 rfl (hB2.celln rfl)) (LW.pp (.ld isAgg3 rfl (hB.celln rfl)) (LW.pp (.eql (.t rfl) (.t rfl)) (LW.A rfl (LW.T (CW.ret (KW.ret1 rfl rfl ⟨_, rfl, ?_⟩))))))))))
 exact ⟨rfl, hW⟩
theorem Explain_any (bc : Array Go.Value) (b : Base) (id : Int) (w : World) (hC : BaseC w bc b) (hlP : b.Processes.length ≤ 400) (hlR : b.Resets.length ≤ 100000) (hlM : b.Measures.length ≤ 100000) (hlT : b.Targets.length ≤ 100000) (hV : ∀ f ∈ b.Processes, inI f.Value) : Ret prog 22 #[.agg bc, vi id] w fun r0 w' => ∃ v, r0 = .tuple #[v, .bool (expF b id).2.1, vi (expF b id).2.2] ∧ DecE w' v (expF b id).1 ∧ Up w w' := by
 obtain ⟨w0, rfl⟩ : ∃ w0, w0 = w := ⟨_, rfl⟩
 have hS := Sep.start no w0
 refine cS (n := 57) (m := 9) func22 rfl rfl rfl (CW.S (LW.rr (.boxA (.t rfl)) rfl ?_))
 rintro _ w1 ⟨B2, rfl, NB2⟩
 replace hS := hS.addB NB2
 refine LW.rr (.box1 (.t rfl) rfl) rfl ?_
 rintro _ w2 ⟨B3, rfl, NB3⟩
 replace hS := hS.addB NB3
 refine LW.rr (.allocA zeroValue48) rfl ?_
 rintro _ w3 ⟨B4, rfl, NB4⟩
 replace hS := hS.addB NB4
 refine LW.C (LW.C (LW.S ?_))
 cases hq1 : procB b id with
 | none =>
  refine CW.region (LW.pp (.loadA isAgg32 sizeOf32 (hC.size) (.t rfl) ((hS.blk 0 rfl).agg)) (LW.pp (.ld isAgg3 rfl ((hS.blk 1 rfl).celln rfl)) (LW.K (eC (.u rfl rfl) (en54)) rfl (Process_any bc b id _ (hC.up hS.upd) oQ) ?_)))
  rintro _ w4 ⟨rfl, uw4⟩
  replace hS := hS.up uw4
  rw [hq1]
  refine LW.M rfl (LW.pp (.extract (.t rfl) rfl) (LW.pp (.extract (.t rfl) rfl) (LW.rr (.allocA zeroValue24) rfl ?_)))
  rintro _ w5 ⟨B7, rfl, MB7⟩
  refine LW.E (.storeA sizeOf24 rfl (.t rfl) (.t rfl) (Fact.one _) MB7.blk rfl) ?_
  intro w6 LB7
  have NB7 := MB7.set LB7
  replace hS := hS.addB NB7
  refine LW.A rfl (LW.S (CW.S (LW.M rfl (LW.pp (.not (.t rfl)) (LW.T (CW.cond_true (.t rfl) (CW.S (LW.pp (.build (cs := DP.cells ⟨dec0, none, 0⟩) underlying48 zeroValue48 Tryz.places48 .nil kQ) (LW.E (.storeA sizeOf48 rfl (.t rfl) (.t rfl) (DP.one _) (hS.blk 2 rfl) rfl) ?_)))))))))
  intro w7 Nw7
  replace hS := hS.putB 2 rfl (show Set_ _ w7 _ (DP.cells ⟨dec0, none, 0⟩) _ from Nw7)
  refine LW.C (LW.C (LW.T (CW.ret (KW.then_ret (KW.retATT rfl rfl rfl rfl isAgg48 sizeOf48 rfl (hS.blk 2 rfl).agg ⟨_, rfl, ?_⟩)))))
  rw [expF_none hq1]
  exact ⟨_, rfl, ⟨none, 0, rfl, Sl.nil _ _ _⟩, hS.upd⟩
 | some f =>
  refine CW.region (LW.pp (.loadA isAgg32 sizeOf32 (hC.size) (.t rfl) ((hS.blk 0 rfl).agg)) (LW.pp (.ld isAgg3 rfl ((hS.blk 1 rfl).celln rfl)) (LW.K (eC (.u rfl rfl) (en54)) rfl (Process_any bc b id _ (hC.up hS.upd) oQ) ?_)))
  rintro _ w8 ⟨rfl, uw8⟩
  replace hS := hS.up uw8
  rw [hq1]
  refine LW.M rfl (LW.pp (.extract (.t rfl) rfl) (LW.pp (.extract (.t rfl) rfl) (LW.rr (.allocA zeroValue24) rfl ?_)))
  rintro _ w9 ⟨B7, rfl, MB7⟩
  refine LW.E (.storeA sizeOf24 rfl (.t rfl) (.t rfl) (Fact.one _) MB7.blk rfl) ?_
  intro w10 LB7
  have NB7 := MB7.set LB7
  replace hS := hS.addB NB7
  refine LW.A rfl (LW.S (CW.S (LW.M rfl (LW.pp (.not (.t rfl)) (LW.T (CW.cond_false (.t rfl) (CW.skip (KW.then (CW.S (LW.pp (.loadA isAgg32 sizeOf32 (hC.size) (.t rfl) ((hS.blk 0 rfl).agg)) (LW.pp (.fA 11 underlying24 rfl sizeOf3 rfl) (LW.pp (.ld isAgg3 rfl ((hS.blk 3 rfl).celln rfl)) (LW.pp (.fA 12 underlying24 rfl sizeOf3 rfl) (LW.pp (.ld isAgg3 rfl ((hS.blk 3 rfl).celln rfl)) (LW.pp (.fA 14 underlying24 rfl sizeOf3 rfl) (LW.pp (.ld isAgg3 rfl ((hS.blk 3 rfl).celln rfl)) (LW.K (eC (.cons (.t rfl) (.cons (.t rfl) (.cons (.t rfl) (.cons (.t rfl) .nil)))) (en16)) rfl (Decisions_any bc b f.Tool f.Chamber f.Recipe _ (hC.up hS.upd) hlP hlR hlM hlT) ?_)))))))))))))))))
  rintro _ w11 ⟨v29, L, rfl, hLm, hT⟩
  replace hS := hS.join hT
  have hLl : L.length ≤ 400 := by have h1 := congrArg List.length hLm; rw [List.length_map, desF_len] at h1; have h2 := rnsF_len b f.Tool f.Chamber f.Recipe; omega
  obtain ⟨ad29, cp29, rfl, _⟩ := (hS.own 4 rfl).sl (fun _ => rfl)
  have hEL : Els w11 ad29 6 DP.cells L := (hS.own 4 rfl).els (fun _ => rfl)
  refine LW.A rfl (LW.S (CW.region (LW.M rfl (LW.pp (.makeFunc (.cons (.t rfl) .nil)) (LW.K (eC (.u rfl rfl) (en55)) rfl (indexD_any 56 #[.pointer (some ⟨B3, 0, none⟩)] (fun x => decide (x.dec.run = id)) en56 ad29 cp29 L _ hEL oQ (fun W u x => expl1_any x id B3 W ((hS.blk 1 rfl).up u))) ?_)))))
  rintro _ w12 ⟨i, rfl, hi, uw12⟩
  replace hS := hS.up uw12
  refine LW.A rfl (LW.S (CW.S (LW.M rfl (LW.pp (.lss (.t rfl) (.const _)) (LW.T (CW.cond (.t rfl) (fun h34 => ?_) (fun h34 => ?_)))))))
  ·replace h34 := dQ h34
   refine CW.seq ?_
   have hn := (hi.resolve_left (fun ⟨k, x, e, _⟩ => by omega)).2
   refine CW.region (LW.pp (.build (cs := DP.cells ⟨dec0, none, 0⟩) underlying48 zeroValue48 Tryz.places48 .nil kQ) (LW.E (.storeA sizeOf48 rfl (.t rfl) (.t rfl) (DP.one _) (hS.blk 2 rfl) rfl) ?_))
   intro w13 Nw13
   replace hS := hS.putB 2 rfl (show Set_ _ w13 _ (DP.cells ⟨dec0, none, 0⟩) _ from Nw13)
   refine LW.C (LW.C (LW.T (CW.ret (KW.then_ret (KW.retATT rfl rfl rfl rfl isAgg48 sizeOf48 rfl (hS.blk 2 rfl).agg ⟨_, rfl, ?_⟩)))))
   rw [expF_no hq1 hLm hn]
   exact ⟨_, rfl, ⟨none, 0, rfl, Sl.nil _ _ _⟩, hS.upd⟩
  replace h34 := dQ h34
  refine CW.skip (KW.then (CW.seq ?_))
  obtain ⟨k, x, rfl, hx, hr, hn⟩ := hi.resolve_right (fun ⟨e, _⟩ => by omega)
  have hkl := (gQ.1 hx).1
  refine CW.region (LW.pp (.fA 16 underlying24 rfl sizeOf3 rfl) (LW.pp (.ld isAgg3 rfl ((hS.blk 3 rfl).celln rfl)) (LW.K (eC (.cons (.t rfl) (.cons (.const _) .nil)) (en57)) rfl (Make_any f.Value 1000 _ (hV f (procB_mem hq1)) cQ ⟨by decide, by decide⟩) ?_)))
  rintro _ w14 ⟨rfl, uw14⟩
  replace hS := hS.up uw14
  refine LW.M rfl (LW.pp (.extract (.t rfl) rfl) (LW.pp (.extract (.t rfl) rfl) (LW.rr (.allocA zeroValue45) rfl ?_)))
  rintro _ w15 ⟨B11, rfl, MB11⟩
  refine LW.E (.storeA sizeOf45 rfl (.t rfl) (.t rfl) (Rt.one _) MB11.blk rfl) ?_
  intro w16 LB11
  have NB11 := MB11.set LB11
  replace hS := hS.addB NB11
  refine LW.A rfl (LW.S ?_)
  obtain ⟨Bx, ox, ax, hcx⟩ := (show Els w16 ad29 6 DP.cells L from (hS.own 4 rfl).els (fun _ => rfl)) k x hx
  subst ax
  have hnB : Bx ≠ B4 := fun e => hS.ne (i := 2) (j := 4) cQ rfl rfl B4 rfl (by show some Bx = some B4; rw [e])
  cases hq9 : fitsF f.Value 1000 with
  | true =>
   have h47 : decide ((mkF f.Value 1000).2 = 0) = true := by rw [mkF_fits hq9]; rfl
   refine CW.freeS 16 15 [.slice (some ⟨Bx, ox, none⟩) L.length cp29, vi (k : Int), .pointer (some ⟨Bx, ox + k * 6, none⟩), .agg x.cells, vi (mkF f.Value 1000).2, .bool true, .bool true, .agg (mkF f.Value 1000).1.cells, .slice (some ⟨Bx, ox, none⟩) L.length cp29, vi (k : Int), .pointer (some ⟨Bx, ox + k * 6, none⟩), .pointer (some ⟨Bx, ox + k * 6 + 1, none⟩), .agg x.dec.par.cells, .bool (rtB (mkF f.Value 1000).1 x.dec.par), .bool (true && rtB (mkF f.Value 1000).1 x.dec.par), undef] [14] ((· = B4)) (fun W => Blk W B4 (DP.cells ⟨dec0, none, 0⟩) 48) (fun W => Blk W B4 x.cells 48) kQ rfl kQ kQ kQ kQ kQ kQ kQ cQ ((hS.up (Up.drew _)).blk 2 rfl) (fun _ _ h u => h.up u) (fun _ _ h u => h.up u) ?_ ?_ kQ
   ·intro W hU0
    have hU := ((Up.drew w16).fr ((· = B4))).trans hU0
    have hcW : AggAt W Bx (ox + k * 6) x.cells := fun j v hv => cell_fr (hcx j v hv) hU hnB
    have hB11 : Blk W B11 (mkF f.Value 1000).1.cells 45 := (hS.blk 6 rfl).fr hU (fun e => hS.blkNe 2 6 cQ rfl rfl e.symm)
    refine aC ⟨fun _ => TW.p (PEv.move (.t rfl)) rfl, fun e => absurd e cQ⟩ (aC ⟨fun _ => TW.p (PEv.move (.t rfl)) rfl, fun e => absurd e cQ⟩ (aC ⟨fun _ => TW.p (PEv.indexAddr' underlying38 sizeOf48 (.t rfl) (.t rfl) hkl rfl) rfl, fun e => absurd e cQ⟩ (aC ⟨fun _ => TW.p (PEv.la isAgg48 sizeOf48 rfl (hcW)) rfl, fun e => absurd e cQ⟩ (aC ⟨fun _ => TW.p (PEv.move (.t rfl)) rfl, fun e => absurd e cQ⟩ (aC ⟨fun _ => TW.p (PEv.tr (PEv.eql (.t rfl) (.const _)) h47) rfl, fun e => absurd e cQ⟩ (aC ⟨fun _ => TW.p (PEv.move (.t rfl)) rfl, fun e => absurd e cQ⟩ (aC ⟨fun _ => TW.yp (PEv.la isAgg45 sizeOf45 rfl (hB11.agg)) rfl rfl rfl rfl rfl, fun e => absurd e cQ⟩ (aC ⟨fun _ => TW.yp (PEv.move (.t rfl)) rfl rfl rfl rfl rfl, fun e => absurd e cQ⟩ (aC ⟨fun _ => TW.yp (PEv.move (.t rfl)) rfl rfl rfl rfl rfl, fun e => absurd e cQ⟩ (aC ⟨fun _ => TW.yp (PEv.indexAddr' underlying38 sizeOf48 (.t rfl) (.t rfl) hkl rfl) rfl rfl rfl rfl rfl, fun e => absurd e cQ⟩ (aC ⟨fun _ => TW.yp (PEv.fA 1 underlying48 rfl sizeOf45 rfl) rfl rfl rfl rfl rfl, fun e => absurd e cQ⟩ (aC ⟨fun _ => TW.yp (PEv.la isAgg45 sizeOf45 rfl (dp_par hcW)) rfl rfl rfl rfl rfl, fun e => absurd e cQ⟩ (aC ⟨fun _ => TW.yp (PEv.eqlA eqGuardType45 (Tryz.eqRt _ _) (.t rfl) (.t rfl)) rfl rfl rfl rfl rfl, fun e => absurd e cQ⟩ (aC ⟨fun _ => TW.p (PEv.pick_and (.t rfl) (fun _ => .tmp rfl)) rfl, fun e => absurd e cQ⟩ (aC ⟨fun e => absurd rfl e, fun _ => ⟨fun hpre => SEv.mono (SEv.storeA sizeOf48 rfl (.t rfl) (.t rfl) (DP.one x) hpre rfl) (fun W2 N => ⟨N.sto.fr, N.blk⟩), rfl, rfl⟩⟩ ?_)))))))))))))))
    exact allL.nil
   intro w17 hU0 hP
   have hU := ((Up.drew w16).fr ((· = B4))).trans hU0
   replace hS := hS.step 2 rfl (A' := aBlk B4 x.cells 48) hU hP (fun _ hi => .inl hi)
   change LW _ _ _ _ _ _ _ _ ((56, .eq (.bool (true && rtB (mkF f.Value 1000).1 x.dec.par))) :: _) _
   refine LW.A rfl (LW.C (LW.T (CW.ret (KW.retATT rfl rfl rfl rfl isAgg48 sizeOf48 rfl (hS.blk 2 rfl).agg ⟨_, rfl, ?_⟩))))
   rw [expF_some hq1 hLm hx hr hn, mkF_fits hq9]
   exact ⟨_, rfl, ⟨x.ad, x.cp, rfl, usesA_get (hS.get 5 rfl) x (List.mem_of_getElem? hx)⟩, hS.upd⟩
  | false =>
   have h47 : decide ((mkF f.Value 1000).2 = 0) = false := by rw [mkFno hq9]; rfl
   refine CW.freeS 16 15 [.slice (some ⟨Bx, ox, none⟩) L.length cp29, vi (k : Int), .pointer (some ⟨Bx, ox + k * 6, none⟩), .agg x.cells, vi (mkF f.Value 1000).2, .bool false, .bool false, undef, undef, undef, undef, undef, undef, undef, .bool (false && false), undef] [14] ((· = B4)) (fun W => Blk W B4 (DP.cells ⟨dec0, none, 0⟩) 48) (fun W => Blk W B4 x.cells 48) kQ rfl kQ kQ kQ kQ kQ kQ kQ cQ ((hS.up (Up.drew _)).blk 2 rfl) (fun _ _ h u => h.up u) (fun _ _ h u => h.up u) ?_ ?_ kQ
   ·intro W hU0
    have hU := ((Up.drew w16).fr ((· = B4))).trans hU0
    have hcW : AggAt W Bx (ox + k * 6) x.cells := fun j v hv => cell_fr (hcx j v hv) hU hnB
    have hB11 : Blk W B11 (mkF f.Value 1000).1.cells 45 := (hS.blk 6 rfl).fr hU (fun e => hS.blkNe 2 6 cQ rfl rfl e.symm)
    refine aC ⟨fun _ => TW.p (PEv.move (.t rfl)) rfl, fun e => absurd e cQ⟩ (aC ⟨fun _ => TW.p (PEv.move (.t rfl)) rfl, fun e => absurd e cQ⟩ (aC ⟨fun _ => TW.p (PEv.indexAddr' underlying38 sizeOf48 (.t rfl) (.t rfl) hkl rfl) rfl, fun e => absurd e cQ⟩ (aC ⟨fun _ => TW.p (PEv.la isAgg48 sizeOf48 rfl (hcW)) rfl, fun e => absurd e cQ⟩ (aC ⟨fun _ => TW.p (PEv.move (.t rfl)) rfl, fun e => absurd e cQ⟩ (aC ⟨fun _ => TW.p (PEv.fa (PEv.eql (.t rfl) (.const _)) h47) rfl, fun e => absurd e cQ⟩ (aC ⟨fun _ => TW.p (PEv.move (.t rfl)) rfl, fun e => absurd e cQ⟩ (aC ⟨fun _ => TW.no rfl rfl rfl rfl rfl rfl, fun e => absurd e cQ⟩ (aC ⟨fun _ => TW.no rfl rfl rfl rfl rfl rfl, fun e => absurd e cQ⟩ (aC ⟨fun _ => TW.no rfl rfl rfl rfl rfl rfl, fun e => absurd e cQ⟩ (aC ⟨fun _ => TW.no rfl rfl rfl rfl rfl rfl, fun e => absurd e cQ⟩ (aC ⟨fun _ => TW.no rfl rfl rfl rfl rfl rfl, fun e => absurd e cQ⟩ (aC ⟨fun _ => TW.no rfl rfl rfl rfl rfl rfl, fun e => absurd e cQ⟩ (aC ⟨fun _ => TW.no rfl rfl rfl rfl rfl rfl, fun e => absurd e cQ⟩ (aC ⟨fun _ => TW.p (PEv.pick_and (b := false) (.t rfl) (fun hp => absurd (show false = true from hp) cQ)) rfl, fun e => absurd e cQ⟩ (aC ⟨fun e => absurd rfl e, fun _ => ⟨fun hpre => SEv.mono (SEv.storeA sizeOf48 rfl (.t rfl) (.t rfl) (DP.one x) hpre rfl) (fun W2 N => ⟨N.sto.fr, N.blk⟩), rfl, rfl⟩⟩ ?_)))))))))))))))
    exact allL.nil
   intro w18 hU0 hP
   have hU := ((Up.drew w16).fr ((· = B4))).trans hU0
   replace hS := hS.step 2 rfl (A' := aBlk B4 x.cells 48) hU hP (fun _ hi => .inl hi)
   change LW _ _ _ _ _ _ _ _ ((56, .eq (.bool (false && false))) :: _) _
   refine LW.A rfl (LW.C (LW.T (CW.ret (KW.retATT rfl rfl rfl rfl isAgg48 sizeOf48 rfl (hS.blk 2 rfl).agg ⟨_, rfl, ?_⟩))))
   rw [expF_some hq1 hLm hx hr hn, mkFno hq9]
   exact ⟨_, rfl, ⟨x.ad, x.cp, rfl, usesA_get (hS.get 5 rfl) x (List.mem_of_getElem? hx)⟩, hS.upd⟩
end Go.Proofs.YtbbpkdlehlamlaaGreatDoor
end
section
namespace Go.Wx
theorem OwnS.ofS {α : Type} {enc : α → Array Value} {e k : Nat} {w0 w : World} {v : Value} {xs : List α} {rest : List Asr} (h : Sep no w0 w (aOwn e k enc v xs :: rest)) : OwnS w w0.heap.size e k enc v xs := (h.own 0 rfl).rebase (fun i hi => (h.foot 0 rfl i hi).resolve_left (fun h => h))
def wI (n : Int) : Int := IntKind.i64.wrap n
def soB (y : I6) : Fact := { zeroF with Version := wI (1 + pickI (wI (y.a.tdiv 5)) 3), Day := pickI y.b 10, Gone := decide (pickI (wI (y.b.tdiv 10)) 6 = 0), Time := pickI y.c 60 }
def soP (y : I6) : Fact := { soB y with Kind := 1, ID := wI (1 + pickI y.d 9), Wafer := wI (1 + pickI y.e 4), Tool := wI ((pickI (wI (y.e.tdiv 4)) 8).tdiv 7), Chamber := wI ((pickI (wI (y.e.tdiv 32)) 6).tdiv 5), Recipe := wI (1 + wI ((pickI y.f 8).tdiv 7)), Revision := 1, Until := wI ((soB y).Time + pickI (wI (y.f.tdiv 8)) 9), Value := wI (1000 * pickI (wI (y.f.tdiv 72)) 40) }
def soM (y : I6) : Fact := { soB y with Kind := 2, ID := wI (1 + pickI y.d 9), Value := wI (pickI y.f 60 - 10) }
def soT (y : I6) : Fact := { soB y with Kind := 10, Recipe := wI (1 + wI ((pickI y.d 8).tdiv 7)), Value := pickI y.f 40 }
def soR (y : I6) : Fact := { soB y with Kind := 9, ID := wI (1 + pickI y.d 9), Tool := wI ((pickI y.e 8).tdiv 7), Chamber := wI ((pickI (wI (y.e.tdiv 8)) 6).tdiv 5) }
def soF (y : I6) : Option Fact := if pickI y.a 5 = 0 ∨ pickI y.a 5 = 1 then some (soP y) else if pickI y.a 5 = 2 then some (soM y) else if pickI y.a 5 = 3 then some (soT y) else if 0 < pickI y.f 3 then none else some (soR y)
theorem soF_p {y : I6} (h : pickI y.a 5 = 0 ∨ pickI y.a 5 = 1) : soF y = some (soP y) := if_pos h
theorem soF_m {y : I6} (h : pickI y.a 5 = 2) : soF y = some (soM y) := by unfold soF; rw [if_neg oQ, if_pos h]
theorem soF_t {y : I6} (h : pickI y.a 5 = 3) : soF y = some (soT y) := by unfold soF; rw [if_neg oQ, if_neg oQ, if_pos h]
theorem soF_n {y : I6} (h0 : ¬ pickI y.a 5 = 0) (h1 : ¬ pickI y.a 5 = 1) (h2 : ¬ pickI y.a 5 = 2) (h3 : ¬ pickI y.a 5 = 3) (h : 0 < pickI y.f 3) : soF y = none := by unfold soF; rw [if_neg oQ, if_neg h2, if_neg h3, if_pos h]
theorem soF_r {y : I6} (h0 : ¬ pickI y.a 5 = 0) (h1 : ¬ pickI y.a 5 = 1) (h2 : ¬ pickI y.a 5 = 2) (h3 : ¬ pickI y.a 5 = 3) (h : ¬ 0 < pickI y.f 3) : soF y = some (soR y) := by unfold soF; rw [if_neg oQ, if_neg h2, if_neg h3, if_neg h]
def soL (xs : List I6) : List Fact := (xs.take 30).filterMap soF
theorem soL_len (xs : List I6) : (soL xs).length ≤ 30 := by
 unfold soL
 refine Nat.le_trans (List.length_filterMap_le _ _) ?_
 rw [List.length_take]; omega
theorem take_one {α : Type} {l : List α} {k : Nat} {x : α} (h : l[k]? = some x) : l.take (k + 1) = l.take k ++ [x] := by rw [List.take_add_one, h]; rfl
theorem soL_take {xs : List I6} {k : Nat} {y : I6} (hy : xs[k]? = some y) (hk : k < 30) : soL (xs.take (k + 1)) = soL (xs.take k) ++ (soF y).toList := by
 unfold soL
 rw [List.take_take, List.take_take, Nat.min_eq_right oQ, Nat.min_eq_right oQ, take_one hy, List.filterMap_append, List.filterMap_cons, List.filterMap_nil]
 cases soF y <;> rfl
theorem soL_yes {xs : List I6} {k : Nat} {y : I6} {f : Fact} (hy : xs[k]? = some y) (hk : k < 30) (h : soF y = some f) : soL (xs.take (k + 1)) = soL (xs.take k) ++ [f] := by rw [soL_take hy hk, h]; rfl
theorem soL_no {xs : List I6} {k : Nat} {y : I6} (hy : xs[k]? = some y) (hk : k < 30) (h : soF y = none) : soL (xs.take (k + 1)) = soL (xs.take k) := by rw [soL_take hy hk, h]; simp
theorem soL_end {xs : List I6} {k : Nat} (h : ¬ (k < xs.length ∧ k < 30)) : soL (xs.take k) = soL xs := by
 unfold soL
 rw [List.take_take]
 congr 1
 by_cases h1 : k < 30
 · rw [Nat.min_eq_right oQ, List.take_of_length_le oQ, List.take_of_length_le (by omega)]
 rw [Nat.min_eq_left (by omega)]
end Go.Wx
namespace Go.Proofs.YtbbpkdlehlamlaaGreatDoor
open Go.Proofs.Tryz
open Go.Wx Go.RowKit
theorem pickR_any (c n : Int) (w : World) (hn : n ≠ 0) : Ret prog 36 #[vi c, vi n] w fun r w' => r = vi (pickI c n) ∧ Up w w' := by
 have hW := Up.refl w
 refine cS (n := 13) (m := 9) func36 rfl rfl rfl (CW.S (LW.C (LW.S (CW.S (LW.M rfl (LW.pp (.lss (.t rfl) (.const _)) (LW.T (CW.cond (.t rfl) (fun h6 => ?_) (fun h6 => ?_)))))))))
 ·replace h6 := dQ h6
  refine CW.region (LW.M rfl (LW.pp (.add_w (.t rfl) (.const _)) (LW.pp (.neg underlying3 (.t rfl)) (LW.A rfl (LW.S (CW.region (LW.M rfl (LW.M rfl (LW.pp (.rem (.t rfl) (.t rfl) oQ) (LW.A rfl (LW.T (CW.ret (KW.ret1 rfl rfl ⟨_, rfl, ?_⟩)))))))))))))
  exact ⟨by (rw [pickI, if_pos h6]), hW⟩
 replace h6 := dQ h6
 refine CW.skip (KW.then (CW.S (LW.M rfl (LW.M rfl (LW.pp (.rem (.t rfl) (.t rfl) oQ) (LW.A rfl (LW.T (CW.ret (KW.ret1 rfl rfl ⟨_, rfl, ?_⟩)))))))))
 exact ⟨by (rw [pickI, if_neg (by omega)]), hW⟩
set_option maxHeartbeats 4000000 in
theorem Some_any (ad : Option Addr) (cp : Nat) (xs : List I6) (w : World) (hE0 : Els w ad 6 I6.cells xs) : Ret prog 11 #[.slice ad xs.length cp] w fun r w' => OwnS w' w.heap.size 24 19 Fact.cells r (soL xs) ∧ Up w w' := by
 obtain ⟨w0, rfl⟩ : ∃ w0, w0 = w := ⟨_, rfl⟩
 have hS := Sep.start no w0
 refine cS (n := 140) (m := 9) func11 rfl rfl rfl (CW.S (LW.C (LW.S (CW.region (LW.C (LW.S (CW.seq ?_)))))))
 replace hS := hS.add (Up.refl _) (A' := aOwn 24 19 Fact.cells (.slice none 0 0) ([] : List Fact)) (OwnS.nil _ _ _ _ _) (fun i h => by cases h)
 refine CW.region (LW.C (LW.T (CW.block (CW.loopB (σ := Nat × Go.Value) (fun s w => (s.1 ≤ xs.length ∧ s.1 ≤ 30) ∧ (Wx.Sep no w0 w [aOwn 24 19 Fact.cells s.2 (soL (xs.take s.1))])) (fun s => [(4, .eq (vi (s.1 : Int))), (3, .eq (s.2))]) ([(0, .eq _), (2, .eq _)]) (fun s => xs.length - s.1) (0, .slice none 0 0) ?_ ⟨rfl, rfl, rfl, rfl, trivial⟩ ?_))))
 ·exact ⟨⟨Nat.zero_le _, Nat.zero_le _⟩, hS⟩
 rintro ⟨k, v⟩ w1 ⟨hk, hS⟩
 dsimp only at hk hS
 change CW _ _ _ _ _ _ _ ([(4, .eq (vi (k : Int))), (3, .eq (v))] ++ _) _
 refine CW.seq (CW.S (LW.M rfl (LW.M rfl (LW.pp (.lenS underlying22 (.t rfl)) (LW.pp (.lss (.t rfl) (.t rfl)) (LW.M rfl (LW.g rfl rfl rfl rfl rfl rfl rfl (fun hc => PEv.move (.t rfl)) (LW.g rfl rfl rfl rfl rfl rfl rfl (fun hc => PEv.lss vQ (.const _)) (LW.pp (.pick_and (.t rfl) (fun hp => (by exact .cond rfl (by (rw [hp]; rfl))))) (LW.T (CW.cond (.t rfl) (fun h14 => ?_) (fun h14 => ?_))))))))))))
 ·replace h14 := dQ h14
  refine CW.skip (KW.then (CW.seq (CW.block (CW.seq ?_))))
  have hE := hE0.up hS.upd
  have hkl : k < xs.length ∧ k < 30 := by simp at h14; omega
  refine CW.region (LW.M rfl (LW.M rfl ?_))
  obtain ⟨y, hy⟩ := getElem?_of_lt (xs := xs) (i := k) oQ
  obtain ⟨By, oy, ay, hcy⟩ := hE _ y hy
  refine LW.pp (.indexAddr' underlying22 sizeOf75 (.t rfl) (.t rfl) oQ ay) (LW.pp (.la isAgg75 sizeOf75 rfl (hcy)) (LW.rr (.allocA zeroValue75) rfl ?_))
  rintro _ w2 ⟨B5, rfl, MB5⟩
  refine LW.E (.storeA sizeOf75 rfl (.t rfl) (.t rfl) (I6.one _) MB5.blk rfl) ?_
  intro w3 LB5
  have NB5 := MB5.set LB5
  clear LB5 MB5
  replace hcy := hcy.up NB5.up
  replace hS := hS.addB NB5
  refine LW.S (CW.free 18 [.eq (.pointer (some ⟨B5, 0, none⟩)), .eq (vi (y.a)), .eq (vi (wI (y.a.tdiv 5))), .eq (vi (pickI (wI (y.a.tdiv 5)) 3)), .eq (vi (wI (1 + pickI (wI (y.a.tdiv 5)) 3))), .eq (.pointer (some ⟨B5, 1, none⟩)), .eq (vi (y.b)), .eq (vi (pickI y.b 10)), .eq (.pointer (some ⟨B5, 1, none⟩)), .eq (vi (y.b)), .eq (vi (wI (y.b.tdiv 10))), .eq (vi (pickI (wI (y.b.tdiv 10)) 6)), .eq (.bool (decide (pickI (wI (y.b.tdiv 10)) 6 = 0))), .eq (.pointer (some ⟨B5, 2, none⟩)), .eq (vi (y.c)), .eq (vi (pickI y.c 60)), .eq (.agg (soB y).cells), .pred fun v W => ∃ B, v = .pointer (some ⟨B, 0, none⟩) ∧ w3.drew.heap.size ≤ B ∧ Blk W B zeroF.cells 24] [6, 37] kQ rfl kQ kQ kQ kQ kQ kQ kQ ⟨PhU.eq _, PhU.eq _, PhU.eq _, PhU.eq _, PhU.eq _, PhU.eq _, PhU.eq _, PhU.eq _, PhU.eq _, PhU.eq _, PhU.eq _, PhU.eq _, PhU.eq _, PhU.eq _, PhU.eq _, PhU.eq _, PhU.eq _, PhU.pred fun _ _ _ h u => let ⟨B, e, hz, hb⟩ := h; ⟨B, e, hz, hb.up u⟩, trivial⟩ ?_ ?_)
  ·intro W hU0
   have hU := (Up.drew w3).trans hU0
   have zU0 := hU0.size
   refine aC ⟨rfl, TU.p (.indexArr (j := 0) underlying75 sizeOf3 (.t rfl) (.const _) cQ) rfl⟩ (aC ⟨rfl, TU.p (.ld isAgg3 rfl (((hS.blk 1 rfl).up hU).celln rfl)) rfl⟩ (aC ⟨rfl, TU.p (.quo (.t rfl) (.const _) cQ) rfl⟩ (aC ⟨rfl, TU.c (eC (.cons (.t rfl) (.cons (.const _) .nil)) (en36)) (pickR_any _ _ _ cQ) sQ⟩ (aC ⟨rfl, TU.p (.add_w (.const _) (.t rfl)) rfl⟩ (aC ⟨rfl, TU.p (.indexArr (j := 1) underlying75 sizeOf3 (.t rfl) (.const _) cQ) rfl⟩ (aC ⟨rfl, TU.p (.ld isAgg3 rfl (((hS.blk 1 rfl).up hU).celln rfl)) rfl⟩ (aC ⟨rfl, TU.c (eC (.cons (.t rfl) (.cons (.const _) .nil)) (en36)) (pickR_any _ _ _ cQ) sQ⟩ (aC ⟨rfl, TU.p (.indexArr (j := 1) underlying75 sizeOf3 (.t rfl) (.const _) cQ) rfl⟩ (aC ⟨rfl, TU.p (.ld isAgg3 rfl (((hS.blk 1 rfl).up hU).celln rfl)) rfl⟩ (aC ⟨rfl, TU.p (.quo (.t rfl) (.const _) cQ) rfl⟩ (aC ⟨rfl, TU.c (eC (.cons (.t rfl) (.cons (.const _) .nil)) (en36)) (pickR_any _ _ _ cQ) sQ⟩ (aC ⟨rfl, TU.p (.eql (.t rfl) (.const _)) rfl⟩ (aC ⟨rfl, TU.p (.indexArr (j := 2) underlying75 sizeOf3 (.t rfl) (.const _) cQ) rfl⟩ (aC ⟨rfl, TU.p (.ld isAgg3 rfl (((hS.blk 1 rfl).up hU).celln rfl)) rfl⟩ (aC ⟨rfl, TU.c (eC (.cons (.t rfl) (.cons (.const _) .nil)) (en36)) (pickR_any _ _ _ cQ) sQ⟩ (aC ⟨rfl, TU.p (.build (cs := (soB y).cells) underlying24 zeroValue24 Tryz.places24 (.cons (.t rfl) (.cons (.t rfl) (.cons (.t rfl) (.cons (.t rfl) .nil)))) rfl) rfl⟩ (aC ⟨rfl, TU.r (REv.allocA zeroValue24) (fun v W' h => let ⟨B, e, N⟩ := h; ⟨N.up, B, e, by rw [N.at_]; exact zU0, N.blk⟩)⟩ ?_)))))))))))))))))
   exact allL.nil
  intro w4 g hU0 hg
  have hU := (Up.drew w3).trans hU0
  obtain ⟨B6, e6, z6, hB6⟩ : ∃ B, g 6 = .pointer (some ⟨B, 0, none⟩) ∧ w3.drew.heap.size ≤ B ∧ Blk w4 B zeroF.cells 24 := hg 17 _ 6 cQ rfl rfl
  have e37 : g 37 = .agg (soB y).cells := hg 16 _ 37 cQ rfl rfl
  change LW _ _ _ _ _ _ _ _ ((6, .eq (g 6)) :: (37, .eq (g 37)) :: _) _
  rw [e6, e37]
  clear hg e6 e37
  replace hS := (hS.up (Up.drew _)).add hU0 (A' := aBlk B6 zeroF.cells 24) hB6 (fun i (e : i = B6) => by omega)
  refine LW.E (.storeA sizeOf24 rfl (.t rfl) (.t rfl) (Fact.one _) (hS.blk 2 rfl) rfl) ?_
  intro w5 Nw5
  replace hS := hS.putB 2 rfl (show Set_ _ w5 _ ((soB y).cells) _ from Nw5)
  refine LW.S (CW.S (LW.pp (.indexArr (j := 0) underlying75 sizeOf3 (.t rfl) (.const _) cQ) (LW.pp (.ld isAgg3 rfl ((hS.blk 1 rfl).celln rfl)) (LW.K (eC (.cons (.t rfl) (.cons (.const _) .nil)) (en36)) rfl (pickR_any _ _ _ cQ) ?_))))
  rintro _ w6 ⟨rfl, uw6⟩
  replace hS := hS.up uw6
  refine LW.T (CW.block (CW.seq (CW.S (LW.pp (.eql (.t rfl) (.const _)) (LW.A rfl (LW.T (CW.cond (.t rfl) (fun h62 => ?_) (fun h62 => ?_))))))))
  ·replace h62 := dQ h62
   refine CW.skip (KW.then (CW.cond (.t rfl) (fun h62 => ?_) (fun h62 => ?_)))
   ·replace h62 := dQ h62
    refine CW.S (LW.pp (.fA 0 underlying24 rfl sizeOf3 rfl) (LW.E (.store sizeOf3 (.t rfl) (.const _) rfl (hS.blk 2 rfl) (zQ rfl)) ?_))
    intro w7 Nw7
    replace hS := hS.putB 2 rfl (show Set_ _ w7 _ (({ soB y with Kind := 1 } : Fact).cells) _ from Nw7)
    refine LW.S (CW.region (LW.pp (.indexArr (j := 3) underlying75 sizeOf3 (.t rfl) (.const _) cQ) (LW.pp (.ld isAgg3 rfl ((hS.blk 1 rfl).celln rfl)) (LW.K (eC (.cons (.t rfl) (.cons (.const _) .nil)) (en36)) rfl (pickR_any _ _ _ cQ) ?_))))
    rintro _ w8 ⟨rfl, uw8⟩
    replace hS := hS.up uw8
    refine LW.pp (.add_w (.const _) (.t rfl)) (LW.pp (.fA 1 underlying24 rfl sizeOf3 rfl) (LW.E (.store sizeOf3 (.t rfl) (.t rfl) rfl (hS.blk 2 rfl) (zQ rfl)) ?_))
    intro w9 Nw9
    replace hS := hS.putB 2 rfl (show Set_ _ w9 _ (({ soB y with Kind := 1, ID := wI (1 + pickI y.d 9) } : Fact).cells) _ from Nw9)
    refine LW.S (CW.region (LW.pp (.indexArr (j := 4) underlying75 sizeOf3 (.t rfl) (.const _) cQ) (LW.pp (.ld isAgg3 rfl ((hS.blk 1 rfl).celln rfl)) (LW.K (eC (.cons (.t rfl) (.cons (.const _) .nil)) (en36)) rfl (pickR_any _ _ _ cQ) ?_))))
    rintro _ w10 ⟨rfl, uw10⟩
    replace hS := hS.up uw10
    refine LW.pp (.add_w (.const _) (.t rfl)) (LW.pp (.fA 7 underlying24 rfl sizeOf3 rfl) (LW.E (.store sizeOf3 (.t rfl) (.t rfl) rfl (hS.blk 2 rfl) (zQ rfl)) ?_))
    intro w11 Nw11
    replace hS := hS.putB 2 rfl (show Set_ _ w11 _ (({ soB y with Kind := 1, ID := wI (1 + pickI y.d 9), Wafer := wI (1 + pickI y.e 4) } : Fact).cells) _ from Nw11)
    refine LW.S (CW.region (LW.pp (.indexArr (j := 4) underlying75 sizeOf3 (.t rfl) (.const _) cQ) (LW.pp (.ld isAgg3 rfl ((hS.blk 1 rfl).celln rfl)) (LW.pp (.quo (.t rfl) (.const _) cQ) (LW.K (eC (.cons (.t rfl) (.cons (.const _) .nil)) (en36)) rfl (pickR_any _ _ _ cQ) ?_)))))
    rintro _ w12 ⟨rfl, uw12⟩
    replace hS := hS.up uw12
    refine LW.pp (.quo (.t rfl) (.const _) cQ) (LW.pp (.fA 11 underlying24 rfl sizeOf3 rfl) (LW.E (.store sizeOf3 (.t rfl) (.t rfl) rfl (hS.blk 2 rfl) (zQ rfl)) ?_))
    intro w13 Nw13
    replace hS := hS.putB 2 rfl (show Set_ _ w13 _ (({ soB y with Kind := 1, ID := wI (1 + pickI y.d 9), Wafer := wI (1 + pickI y.e 4), Tool := wI ((pickI (wI (y.e.tdiv 4)) 8).tdiv 7) } : Fact).cells) _ from Nw13)
    refine LW.S (CW.region (LW.pp (.indexArr (j := 4) underlying75 sizeOf3 (.t rfl) (.const _) cQ) (LW.pp (.ld isAgg3 rfl ((hS.blk 1 rfl).celln rfl)) (LW.pp (.quo (.t rfl) (.const _) cQ) (LW.K (eC (.cons (.t rfl) (.cons (.const _) .nil)) (en36)) rfl (pickR_any _ _ _ cQ) ?_)))))
    rintro _ w14 ⟨rfl, uw14⟩
    replace hS := hS.up uw14
    refine LW.pp (.quo (.t rfl) (.const _) cQ) (LW.pp (.fA 12 underlying24 rfl sizeOf3 rfl) (LW.E (.store sizeOf3 (.t rfl) (.t rfl) rfl (hS.blk 2 rfl) (zQ rfl)) ?_))
    intro w15 Nw15
    replace hS := hS.putB 2 rfl (show Set_ _ w15 _ (({ soB y with Kind := 1, ID := wI (1 + pickI y.d 9), Wafer := wI (1 + pickI y.e 4), Tool := wI ((pickI (wI (y.e.tdiv 4)) 8).tdiv 7), Chamber := wI ((pickI (wI (y.e.tdiv 32)) 6).tdiv 5) } : Fact).cells) _ from Nw15)
    refine LW.S (CW.region (LW.pp (.indexArr (j := 5) underlying75 sizeOf3 (.t rfl) (.const _) cQ) (LW.pp (.ld isAgg3 rfl ((hS.blk 1 rfl).celln rfl)) (LW.K (eC (.cons (.t rfl) (.cons (.const _) .nil)) (en36)) rfl (pickR_any _ _ _ cQ) ?_))))
    rintro _ w16 ⟨rfl, uw16⟩
    replace hS := hS.up uw16
    refine LW.pp (.quo (.t rfl) (.const _) cQ) (LW.pp (.add_w (.const _) (.t rfl)) (LW.pp (.fA 14 underlying24 rfl sizeOf3 rfl) (LW.E (.store sizeOf3 (.t rfl) (.t rfl) rfl (hS.blk 2 rfl) (zQ rfl)) ?_)))
    intro w17 Nw17
    replace hS := hS.putB 2 rfl (show Set_ _ w17 _ (({ soB y with Kind := 1, ID := wI (1 + pickI y.d 9), Wafer := wI (1 + pickI y.e 4), Tool := wI ((pickI (wI (y.e.tdiv 4)) 8).tdiv 7), Chamber := wI ((pickI (wI (y.e.tdiv 32)) 6).tdiv 5), Recipe := wI (1 + wI ((pickI y.f 8).tdiv 7)) } : Fact).cells) _ from Nw17)
    refine LW.S (CW.region (LW.pp (.fA 15 underlying24 rfl sizeOf3 rfl) (LW.E (.store sizeOf3 (.t rfl) (.const _) rfl (hS.blk 2 rfl) (zQ rfl)) ?_)))
    intro w18 Nw18
    replace hS := hS.putB 2 rfl (show Set_ _ w18 _ (({ soB y with Kind := 1, ID := wI (1 + pickI y.d 9), Wafer := wI (1 + pickI y.e 4), Tool := wI ((pickI (wI (y.e.tdiv 4)) 8).tdiv 7), Chamber := wI ((pickI (wI (y.e.tdiv 32)) 6).tdiv 5), Recipe := wI (1 + wI ((pickI y.f 8).tdiv 7)), Revision := 1 } : Fact).cells) _ from Nw18)
    refine LW.S (CW.draws_then 8 kQ kQ kQ kQ kQ rfl rfl (HW.pp (.fA 5 underlying24 rfl sizeOf3 rfl) (HW.pp (.ld isAgg3 rfl ((hS.blk 2 rfl).celln rfl)) (HW.pp (.indexArr (j := 5) underlying75 sizeOf3 (.t rfl) (.const _) cQ) (HW.pp (.ld isAgg3 rfl ((hS.blk 1 rfl).celln rfl)) (HW.pp (.quo (.t rfl) (.const _) cQ) (HW.c (fun a w _ ha => enter_call0 (.cons (.t rfl) (.cons (.const _) .nil)) (en36) a ha) rfl rfl (fun w hu => pickR_any _ _ w cQ) (HW.pp (.add_w (.t rfl) (.t rfl)) (HW.pp (.fA 6 underlying24 rfl sizeOf3 rfl) (HW.nil ?_))))))))))
    intro w19 uw19
    replace hS := hS.up uw19
    refine LW.E (.store sizeOf3 (.t rfl) (.t rfl) rfl (hS.blk 2 rfl) (zQ rfl)) ?_
    intro w20 Nw20
    replace hS := hS.putB 2 rfl (show Set_ _ w20 _ (({ soB y with Kind := 1, ID := wI (1 + pickI y.d 9), Wafer := wI (1 + pickI y.e 4), Tool := wI ((pickI (wI (y.e.tdiv 4)) 8).tdiv 7), Chamber := wI ((pickI (wI (y.e.tdiv 32)) 6).tdiv 5), Recipe := wI (1 + wI ((pickI y.f 8).tdiv 7)), Revision := 1, Until := wI ((soB y).Time + pickI (wI (y.f.tdiv 8)) 9) } : Fact).cells) _ from Nw20)
    refine LW.T (CW.region (LW.pp (.indexArr (j := 5) underlying75 sizeOf3 (.t rfl) (.const _) cQ) (LW.pp (.ld isAgg3 rfl ((hS.blk 1 rfl).celln rfl)) (LW.pp (.quo (.t rfl) (.const _) cQ) (LW.K (eC (.cons (.t rfl) (.cons (.const _) .nil)) (en36)) rfl (pickR_any _ _ _ cQ) ?_)))))
    rintro _ w21 ⟨rfl, uw21⟩
    replace hS := hS.up uw21
    refine LW.pp (.mul_w (.const _) (.t rfl)) (LW.pp (.fA 16 underlying24 rfl sizeOf3 rfl) (LW.E (.store sizeOf3 (.t rfl) (.t rfl) rfl (hS.blk 2 rfl) (zQ rfl)) ?_))
    intro w22 Nw22
    replace hS := hS.putB 2 rfl (show Set_ _ w22 _ (({ soB y with Kind := 1, ID := wI (1 + pickI y.d 9), Wafer := wI (1 + pickI y.e 4), Tool := wI ((pickI (wI (y.e.tdiv 4)) 8).tdiv 7), Chamber := wI ((pickI (wI (y.e.tdiv 32)) 6).tdiv 5), Recipe := wI (1 + wI ((pickI y.f 8).tdiv 7)), Revision := 1, Until := wI ((soB y).Time + pickI (wI (y.f.tdiv 8)) 9), Value := wI (1000 * pickI (wI (y.f.tdiv 72)) 40) } : Fact).cells) _ from Nw22)
    refine LW.nil (KW.inBlock (KW.then ?_))
    (have hso := soF_p (y := y) (by omega); change Wx.Sep no w0 _ [_, _, aBlk B6 (soP y).cells _] at hS; generalize soP y = ff at hS hso)
    have hsl := soL_len (xs.take k)
    refine CW.region (LW.M rfl (LW.pp (.la isAgg24 sizeOf24 rfl ((hS.blk 2 rfl).agg)) (LW.rr (.buildSlice (xs := [ff]) (enc := Fact.cells) (mk := fun f : Fact => .agg f.cells) underlying26 sizeOf24 zeroValue24 rfl cQ (fun _ => rfl) (fun _ => rfl) (.cons (.t rfl) .nil) rfl) rfl ?_)))
    rintro _ w23 ⟨B137, cB137, rfl, NB137, yB137, xB137⟩
    replace hS := hS.up NB137.up
    have hE137 := xB137
    refine LW.rr (.appendF (enc := Fact.cells) (bytes := 160) (i := Tryz.t24) underlying26 kQ rfl rfl rfl rfl cQ (fun _ => rfl) Fact.one (.t rfl) (.t rfl) (hS.own 0 rfl) (Sl.of_els hE137) (by have := hsl; simp [maxLen]; omega) (by have := hsl; simp; omega)) rfl ?_
    intro v138 w24 Gw24
    replace hS := hS.stp 0 rfl Gw24
    refine LW.A rfl (LW.nil (KW.inBlock (KW.then (CW.region (LW.M rfl (LW.pp (.inc (.t rfl) oQ) (LW.A rfl (LW.nil (KW.round ?_)))))))))
    exact ⟨(k + 1, v138), ⟨⟨by show k + 1 ≤ _; omega, by show k + 1 ≤ _; omega⟩, by (rw [soL_yes hy hkl.2 hso]; exact hS.take 1)⟩, ⟨rfl, rfl, rfl, rfl, trivial⟩, by show xs.length - (k + 1) < xs.length - k; omega⟩
   replace h62 := dQ h62
   refine CW.S (LW.pp (.eql (.t rfl) (.const _)) (LW.A rfl (LW.T (CW.cond (.t rfl) (fun h109 => ?_) (fun h109 => ?_)))))
   ·replace h109 := dQ h109
    refine CW.S (LW.pp (.fA 0 underlying24 rfl sizeOf3 rfl) (LW.E (.store sizeOf3 (.t rfl) (.const _) rfl (hS.blk 2 rfl) (zQ rfl)) ?_))
    intro w25 Nw25
    replace hS := hS.putB 2 rfl (show Set_ _ w25 _ (({ soB y with Kind := 2 } : Fact).cells) _ from Nw25)
    refine LW.S (CW.region (LW.pp (.indexArr (j := 3) underlying75 sizeOf3 (.t rfl) (.const _) cQ) (LW.pp (.ld isAgg3 rfl ((hS.blk 1 rfl).celln rfl)) (LW.K (eC (.cons (.t rfl) (.cons (.const _) .nil)) (en36)) rfl (pickR_any _ _ _ cQ) ?_))))
    rintro _ w26 ⟨rfl, uw26⟩
    replace hS := hS.up uw26
    refine LW.pp (.add_w (.const _) (.t rfl)) (LW.pp (.fA 1 underlying24 rfl sizeOf3 rfl) (LW.E (.store sizeOf3 (.t rfl) (.t rfl) rfl (hS.blk 2 rfl) (zQ rfl)) ?_))
    intro w27 Nw27
    replace hS := hS.putB 2 rfl (show Set_ _ w27 _ (({ soB y with Kind := 2, ID := wI (1 + pickI y.d 9) } : Fact).cells) _ from Nw27)
    refine LW.T (CW.region (LW.pp (.indexArr (j := 5) underlying75 sizeOf3 (.t rfl) (.const _) cQ) (LW.pp (.ld isAgg3 rfl ((hS.blk 1 rfl).celln rfl)) (LW.K (eC (.cons (.t rfl) (.cons (.const _) .nil)) (en36)) rfl (pickR_any _ _ _ cQ) ?_))))
    rintro _ w28 ⟨rfl, uw28⟩
    replace hS := hS.up uw28
    refine LW.pp (.sub_w (.t rfl) (.const _)) (LW.pp (.fA 16 underlying24 rfl sizeOf3 rfl) (LW.E (.store sizeOf3 (.t rfl) (.t rfl) rfl (hS.blk 2 rfl) (zQ rfl)) ?_))
    intro w29 Nw29
    replace hS := hS.putB 2 rfl (show Set_ _ w29 _ (({ soB y with Kind := 2, ID := wI (1 + pickI y.d 9), Value := wI (pickI y.f 60 - 10) } : Fact).cells) _ from Nw29)
    refine LW.nil (KW.inBlock (KW.then ?_))
    (have hso := soF_m (y := y) (by omega); change Wx.Sep no w0 _ [_, _, aBlk B6 (soM y).cells _] at hS; generalize soM y = ff at hS hso)
    have hsl := soL_len (xs.take k)
    refine CW.region (LW.M rfl (LW.pp (.la isAgg24 sizeOf24 rfl ((hS.blk 2 rfl).agg)) (LW.rr (.buildSlice (xs := [ff]) (enc := Fact.cells) (mk := fun f : Fact => .agg f.cells) underlying26 sizeOf24 zeroValue24 rfl cQ (fun _ => rfl) (fun _ => rfl) (.cons (.t rfl) .nil) rfl) rfl ?_)))
    rintro _ w30 ⟨B137, cB137, rfl, NB137, yB137, xB137⟩
    replace hS := hS.up NB137.up
    have hE137 := xB137
    refine LW.rr (.appendF (enc := Fact.cells) (bytes := 160) (i := Tryz.t24) underlying26 kQ rfl rfl rfl rfl cQ (fun _ => rfl) Fact.one (.t rfl) (.t rfl) (hS.own 0 rfl) (Sl.of_els hE137) (by have := hsl; simp [maxLen]; omega) (by have := hsl; simp; omega)) rfl ?_
    intro v138 w31 Gw31
    replace hS := hS.stp 0 rfl Gw31
    refine LW.A rfl (LW.nil (KW.inBlock (KW.then (CW.region (LW.M rfl (LW.pp (.inc (.t rfl) oQ) (LW.A rfl (LW.nil (KW.round ?_)))))))))
    exact ⟨(k + 1, v138), ⟨⟨by show k + 1 ≤ _; omega, by show k + 1 ≤ _; omega⟩, by (rw [soL_yes hy hkl.2 hso]; exact hS.take 1)⟩, ⟨rfl, rfl, rfl, rfl, trivial⟩, by show xs.length - (k + 1) < xs.length - k; omega⟩
   replace h109 := dQ h109
   refine CW.S (LW.pp (.eql (.t rfl) (.const _)) (LW.A rfl (LW.T (CW.cond (.t rfl) (fun h122 => ?_) (fun h122 => ?_)))))
   ·replace h122 := dQ h122
    refine CW.S (LW.pp (.fA 0 underlying24 rfl sizeOf3 rfl) (LW.E (.store sizeOf3 (.t rfl) (.const _) rfl (hS.blk 2 rfl) (zQ rfl)) ?_))
    intro w32 Nw32
    replace hS := hS.putB 2 rfl (show Set_ _ w32 _ (({ soB y with Kind := 10 } : Fact).cells) _ from Nw32)
    refine LW.S (CW.region (LW.pp (.indexArr (j := 3) underlying75 sizeOf3 (.t rfl) (.const _) cQ) (LW.pp (.ld isAgg3 rfl ((hS.blk 1 rfl).celln rfl)) (LW.K (eC (.cons (.t rfl) (.cons (.const _) .nil)) (en36)) rfl (pickR_any _ _ _ cQ) ?_))))
    rintro _ w33 ⟨rfl, uw33⟩
    replace hS := hS.up uw33
    refine LW.pp (.quo (.t rfl) (.const _) cQ) (LW.pp (.add_w (.const _) (.t rfl)) (LW.pp (.fA 14 underlying24 rfl sizeOf3 rfl) (LW.E (.store sizeOf3 (.t rfl) (.t rfl) rfl (hS.blk 2 rfl) (zQ rfl)) ?_)))
    intro w34 Nw34
    replace hS := hS.putB 2 rfl (show Set_ _ w34 _ (({ soB y with Kind := 10, Recipe := wI (1 + wI ((pickI y.d 8).tdiv 7)) } : Fact).cells) _ from Nw34)
    refine LW.T (CW.region (LW.pp (.indexArr (j := 5) underlying75 sizeOf3 (.t rfl) (.const _) cQ) (LW.pp (.ld isAgg3 rfl ((hS.blk 1 rfl).celln rfl)) (LW.K (eC (.cons (.t rfl) (.cons (.const _) .nil)) (en36)) rfl (pickR_any _ _ _ cQ) ?_))))
    rintro _ w35 ⟨rfl, uw35⟩
    replace hS := hS.up uw35
    refine LW.pp (.fA 16 underlying24 rfl sizeOf3 rfl) (LW.E (.store sizeOf3 (.t rfl) (.t rfl) rfl (hS.blk 2 rfl) (zQ rfl)) ?_)
    intro w36 Nw36
    replace hS := hS.putB 2 rfl (show Set_ _ w36 _ (({ soB y with Kind := 10, Recipe := wI (1 + wI ((pickI y.d 8).tdiv 7)), Value := pickI y.f 40 } : Fact).cells) _ from Nw36)
    refine LW.nil (KW.inBlock (KW.then ?_))
    (have hso := soF_t (y := y) (by omega); change Wx.Sep no w0 _ [_, _, aBlk B6 (soT y).cells _] at hS; generalize soT y = ff at hS hso)
    have hsl := soL_len (xs.take k)
    refine CW.region (LW.M rfl (LW.pp (.la isAgg24 sizeOf24 rfl ((hS.blk 2 rfl).agg)) (LW.rr (.buildSlice (xs := [ff]) (enc := Fact.cells) (mk := fun f : Fact => .agg f.cells) underlying26 sizeOf24 zeroValue24 rfl cQ (fun _ => rfl) (fun _ => rfl) (.cons (.t rfl) .nil) rfl) rfl ?_)))
    rintro _ w37 ⟨B137, cB137, rfl, NB137, yB137, xB137⟩
    replace hS := hS.up NB137.up
    have hE137 := xB137
    refine LW.rr (.appendF (enc := Fact.cells) (bytes := 160) (i := Tryz.t24) underlying26 kQ rfl rfl rfl rfl cQ (fun _ => rfl) Fact.one (.t rfl) (.t rfl) (hS.own 0 rfl) (Sl.of_els hE137) (by have := hsl; simp [maxLen]; omega) (by have := hsl; simp; omega)) rfl ?_
    intro v138 w38 Gw38
    replace hS := hS.stp 0 rfl Gw38
    refine LW.A rfl (LW.nil (KW.inBlock (KW.then (CW.region (LW.M rfl (LW.pp (.inc (.t rfl) oQ) (LW.A rfl (LW.nil (KW.round ?_)))))))))
    exact ⟨(k + 1, v138), ⟨⟨by show k + 1 ≤ _; omega, by show k + 1 ≤ _; omega⟩, by (rw [soL_yes hy hkl.2 hso]; exact hS.take 1)⟩, ⟨rfl, rfl, rfl, rfl, trivial⟩, by show xs.length - (k + 1) < xs.length - k; omega⟩
   replace h122 := dQ h122
   refine CW.seq (CW.S (LW.pp (.indexArr (j := 5) underlying75 sizeOf3 (.t rfl) (.const _) cQ) (LW.pp (.ld isAgg3 rfl ((hS.blk 1 rfl).celln rfl)) (LW.K (eC (.cons (.t rfl) (.cons (.const _) .nil)) (en36)) rfl (pickR_any _ _ _ cQ) ?_))))
   rintro _ w39 ⟨rfl, uw39⟩
   replace hS := hS.up uw39
   refine LW.pp (.gtr (.t rfl) (.const _)) (LW.T (CW.cond (.t rfl) (fun h44 => ?_) (fun h44 => ?_)))
   ·replace h44 := dQ h44
    have hso := soF_n (y := y) oQ oQ oQ oQ h44
    refine CW.exit (KW.then_exit (KW.block_miss cQ (KW.then_exit (KW.block_hit (KW.then (CW.region (LW.M rfl (LW.pp (.inc (.t rfl) oQ) (LW.A rfl (LW.nil (KW.round ?_)))))))))))
    exact ⟨(k + 1, v), ⟨⟨by show k + 1 ≤ _; omega, by show k + 1 ≤ _; omega⟩, by (rw [soL_no hy hkl.2 hso]; exact hS.take 1)⟩, ⟨rfl, rfl, rfl, rfl, trivial⟩, by show xs.length - (k + 1) < xs.length - k; omega⟩
   replace h44 := dQ h44
   refine CW.skip (KW.then (CW.S (LW.pp (.fA 0 underlying24 rfl sizeOf3 rfl) (LW.E (.store sizeOf3 (.t rfl) (.const _) rfl (hS.blk 2 rfl) (zQ rfl)) ?_))))
   intro w40 Nw40
   replace hS := hS.putB 2 rfl (show Set_ _ w40 _ (({ soB y with Kind := 9 } : Fact).cells) _ from Nw40)
   refine LW.S (CW.region (LW.pp (.indexArr (j := 3) underlying75 sizeOf3 (.t rfl) (.const _) cQ) (LW.pp (.ld isAgg3 rfl ((hS.blk 1 rfl).celln rfl)) (LW.K (eC (.cons (.t rfl) (.cons (.const _) .nil)) (en36)) rfl (pickR_any _ _ _ cQ) ?_))))
   rintro _ w41 ⟨rfl, uw41⟩
   replace hS := hS.up uw41
   refine LW.pp (.add_w (.const _) (.t rfl)) (LW.pp (.fA 1 underlying24 rfl sizeOf3 rfl) (LW.E (.store sizeOf3 (.t rfl) (.t rfl) rfl (hS.blk 2 rfl) (zQ rfl)) ?_))
   intro w42 Nw42
   replace hS := hS.putB 2 rfl (show Set_ _ w42 _ (({ soB y with Kind := 9, ID := wI (1 + pickI y.d 9) } : Fact).cells) _ from Nw42)
   refine LW.S (CW.region (LW.pp (.indexArr (j := 4) underlying75 sizeOf3 (.t rfl) (.const _) cQ) (LW.pp (.ld isAgg3 rfl ((hS.blk 1 rfl).celln rfl)) (LW.K (eC (.cons (.t rfl) (.cons (.const _) .nil)) (en36)) rfl (pickR_any _ _ _ cQ) ?_))))
   rintro _ w43 ⟨rfl, uw43⟩
   replace hS := hS.up uw43
   refine LW.pp (.quo (.t rfl) (.const _) cQ) (LW.pp (.fA 11 underlying24 rfl sizeOf3 rfl) (LW.E (.store sizeOf3 (.t rfl) (.t rfl) rfl (hS.blk 2 rfl) (zQ rfl)) ?_))
   intro w44 Nw44
   replace hS := hS.putB 2 rfl (show Set_ _ w44 _ (({ soB y with Kind := 9, ID := wI (1 + pickI y.d 9), Tool := wI ((pickI y.e 8).tdiv 7) } : Fact).cells) _ from Nw44)
   refine LW.T (CW.region (LW.pp (.indexArr (j := 4) underlying75 sizeOf3 (.t rfl) (.const _) cQ) (LW.pp (.ld isAgg3 rfl ((hS.blk 1 rfl).celln rfl)) (LW.pp (.quo (.t rfl) (.const _) cQ) (LW.K (eC (.cons (.t rfl) (.cons (.const _) .nil)) (en36)) rfl (pickR_any _ _ _ cQ) ?_)))))
   rintro _ w45 ⟨rfl, uw45⟩
   replace hS := hS.up uw45
   refine LW.pp (.quo (.t rfl) (.const _) cQ) (LW.pp (.fA 12 underlying24 rfl sizeOf3 rfl) (LW.E (.store sizeOf3 (.t rfl) (.t rfl) rfl (hS.blk 2 rfl) (zQ rfl)) ?_))
   intro w46 Nw46
   replace hS := hS.putB 2 rfl (show Set_ _ w46 _ (({ soB y with Kind := 9, ID := wI (1 + pickI y.d 9), Tool := wI ((pickI y.e 8).tdiv 7), Chamber := wI ((pickI (wI (y.e.tdiv 8)) 6).tdiv 5) } : Fact).cells) _ from Nw46)
   refine LW.nil (KW.inBlock (KW.then ?_))
   (have hso := soF_r (y := y) oQ oQ oQ oQ (by omega); change Wx.Sep no w0 _ [_, _, aBlk B6 (soR y).cells _] at hS; generalize soR y = ff at hS hso)
   have hsl := soL_len (xs.take k)
   refine CW.region (LW.M rfl (LW.pp (.la isAgg24 sizeOf24 rfl ((hS.blk 2 rfl).agg)) (LW.rr (.buildSlice (xs := [ff]) (enc := Fact.cells) (mk := fun f : Fact => .agg f.cells) underlying26 sizeOf24 zeroValue24 rfl cQ (fun _ => rfl) (fun _ => rfl) (.cons (.t rfl) .nil) rfl) rfl ?_)))
   rintro _ w47 ⟨B137, cB137, rfl, NB137, yB137, xB137⟩
   replace hS := hS.up NB137.up
   have hE137 := xB137
   refine LW.rr (.appendF (enc := Fact.cells) (bytes := 160) (i := Tryz.t24) underlying26 kQ rfl rfl rfl rfl cQ (fun _ => rfl) Fact.one (.t rfl) (.t rfl) (hS.own 0 rfl) (Sl.of_els hE137) (by have := hsl; simp [maxLen]; omega) (by have := hsl; simp; omega)) rfl ?_
   intro v138 w48 Gw48
   replace hS := hS.stp 0 rfl Gw48
   refine LW.A rfl (LW.nil (KW.inBlock (KW.then (CW.region (LW.M rfl (LW.pp (.inc (.t rfl) oQ) (LW.A rfl (LW.nil (KW.round ?_)))))))))
   exact ⟨(k + 1, v138), ⟨⟨by show k + 1 ≤ _; omega, by show k + 1 ≤ _; omega⟩, by (rw [soL_yes hy hkl.2 hso]; exact hS.take 1)⟩, ⟨rfl, rfl, rfl, rfl, trivial⟩, by show xs.length - (k + 1) < xs.length - k; omega⟩
  replace h62 := dQ h62
  refine CW.region (LW.pp (.eql (.t rfl) (.const _)) (LW.A rfl (LW.T (CW.cond (.t rfl) (fun h62 => ?_) (fun h62 => ?_)))))
  ·replace h62 := dQ h62
   refine CW.S (LW.pp (.fA 0 underlying24 rfl sizeOf3 rfl) (LW.E (.store sizeOf3 (.t rfl) (.const _) rfl (hS.blk 2 rfl) (zQ rfl)) ?_))
   intro w49 Nw49
   replace hS := hS.putB 2 rfl (show Set_ _ w49 _ (({ soB y with Kind := 1 } : Fact).cells) _ from Nw49)
   refine LW.S (CW.region (LW.pp (.indexArr (j := 3) underlying75 sizeOf3 (.t rfl) (.const _) cQ) (LW.pp (.ld isAgg3 rfl ((hS.blk 1 rfl).celln rfl)) (LW.K (eC (.cons (.t rfl) (.cons (.const _) .nil)) (en36)) rfl (pickR_any _ _ _ cQ) ?_))))
   rintro _ w50 ⟨rfl, uw50⟩
   replace hS := hS.up uw50
   refine LW.pp (.add_w (.const _) (.t rfl)) (LW.pp (.fA 1 underlying24 rfl sizeOf3 rfl) (LW.E (.store sizeOf3 (.t rfl) (.t rfl) rfl (hS.blk 2 rfl) (zQ rfl)) ?_))
   intro w51 Nw51
   replace hS := hS.putB 2 rfl (show Set_ _ w51 _ (({ soB y with Kind := 1, ID := wI (1 + pickI y.d 9) } : Fact).cells) _ from Nw51)
   refine LW.S (CW.region (LW.pp (.indexArr (j := 4) underlying75 sizeOf3 (.t rfl) (.const _) cQ) (LW.pp (.ld isAgg3 rfl ((hS.blk 1 rfl).celln rfl)) (LW.K (eC (.cons (.t rfl) (.cons (.const _) .nil)) (en36)) rfl (pickR_any _ _ _ cQ) ?_))))
   rintro _ w52 ⟨rfl, uw52⟩
   replace hS := hS.up uw52
   refine LW.pp (.add_w (.const _) (.t rfl)) (LW.pp (.fA 7 underlying24 rfl sizeOf3 rfl) (LW.E (.store sizeOf3 (.t rfl) (.t rfl) rfl (hS.blk 2 rfl) (zQ rfl)) ?_))
   intro w53 Nw53
   replace hS := hS.putB 2 rfl (show Set_ _ w53 _ (({ soB y with Kind := 1, ID := wI (1 + pickI y.d 9), Wafer := wI (1 + pickI y.e 4) } : Fact).cells) _ from Nw53)
   refine LW.S (CW.region (LW.pp (.indexArr (j := 4) underlying75 sizeOf3 (.t rfl) (.const _) cQ) (LW.pp (.ld isAgg3 rfl ((hS.blk 1 rfl).celln rfl)) (LW.pp (.quo (.t rfl) (.const _) cQ) (LW.K (eC (.cons (.t rfl) (.cons (.const _) .nil)) (en36)) rfl (pickR_any _ _ _ cQ) ?_)))))
   rintro _ w54 ⟨rfl, uw54⟩
   replace hS := hS.up uw54
   refine LW.pp (.quo (.t rfl) (.const _) cQ) (LW.pp (.fA 11 underlying24 rfl sizeOf3 rfl) (LW.E (.store sizeOf3 (.t rfl) (.t rfl) rfl (hS.blk 2 rfl) (zQ rfl)) ?_))
   intro w55 Nw55
   replace hS := hS.putB 2 rfl (show Set_ _ w55 _ (({ soB y with Kind := 1, ID := wI (1 + pickI y.d 9), Wafer := wI (1 + pickI y.e 4), Tool := wI ((pickI (wI (y.e.tdiv 4)) 8).tdiv 7) } : Fact).cells) _ from Nw55)
   refine LW.S (CW.region (LW.pp (.indexArr (j := 4) underlying75 sizeOf3 (.t rfl) (.const _) cQ) (LW.pp (.ld isAgg3 rfl ((hS.blk 1 rfl).celln rfl)) (LW.pp (.quo (.t rfl) (.const _) cQ) (LW.K (eC (.cons (.t rfl) (.cons (.const _) .nil)) (en36)) rfl (pickR_any _ _ _ cQ) ?_)))))
   rintro _ w56 ⟨rfl, uw56⟩
   replace hS := hS.up uw56
   refine LW.pp (.quo (.t rfl) (.const _) cQ) (LW.pp (.fA 12 underlying24 rfl sizeOf3 rfl) (LW.E (.store sizeOf3 (.t rfl) (.t rfl) rfl (hS.blk 2 rfl) (zQ rfl)) ?_))
   intro w57 Nw57
   replace hS := hS.putB 2 rfl (show Set_ _ w57 _ (({ soB y with Kind := 1, ID := wI (1 + pickI y.d 9), Wafer := wI (1 + pickI y.e 4), Tool := wI ((pickI (wI (y.e.tdiv 4)) 8).tdiv 7), Chamber := wI ((pickI (wI (y.e.tdiv 32)) 6).tdiv 5) } : Fact).cells) _ from Nw57)
   refine LW.S (CW.region (LW.pp (.indexArr (j := 5) underlying75 sizeOf3 (.t rfl) (.const _) cQ) (LW.pp (.ld isAgg3 rfl ((hS.blk 1 rfl).celln rfl)) (LW.K (eC (.cons (.t rfl) (.cons (.const _) .nil)) (en36)) rfl (pickR_any _ _ _ cQ) ?_))))
   rintro _ w58 ⟨rfl, uw58⟩
   replace hS := hS.up uw58
   refine LW.pp (.quo (.t rfl) (.const _) cQ) (LW.pp (.add_w (.const _) (.t rfl)) (LW.pp (.fA 14 underlying24 rfl sizeOf3 rfl) (LW.E (.store sizeOf3 (.t rfl) (.t rfl) rfl (hS.blk 2 rfl) (zQ rfl)) ?_)))
   intro w59 Nw59
   replace hS := hS.putB 2 rfl (show Set_ _ w59 _ (({ soB y with Kind := 1, ID := wI (1 + pickI y.d 9), Wafer := wI (1 + pickI y.e 4), Tool := wI ((pickI (wI (y.e.tdiv 4)) 8).tdiv 7), Chamber := wI ((pickI (wI (y.e.tdiv 32)) 6).tdiv 5), Recipe := wI (1 + wI ((pickI y.f 8).tdiv 7)) } : Fact).cells) _ from Nw59)
   refine LW.S (CW.region (LW.pp (.fA 15 underlying24 rfl sizeOf3 rfl) (LW.E (.store sizeOf3 (.t rfl) (.const _) rfl (hS.blk 2 rfl) (zQ rfl)) ?_)))
   intro w60 Nw60
   replace hS := hS.putB 2 rfl (show Set_ _ w60 _ (({ soB y with Kind := 1, ID := wI (1 + pickI y.d 9), Wafer := wI (1 + pickI y.e 4), Tool := wI ((pickI (wI (y.e.tdiv 4)) 8).tdiv 7), Chamber := wI ((pickI (wI (y.e.tdiv 32)) 6).tdiv 5), Recipe := wI (1 + wI ((pickI y.f 8).tdiv 7)), Revision := 1 } : Fact).cells) _ from Nw60)
   refine LW.S (CW.draws_then 8 kQ kQ kQ kQ kQ rfl rfl (HW.pp (.fA 5 underlying24 rfl sizeOf3 rfl) (HW.pp (.ld isAgg3 rfl ((hS.blk 2 rfl).celln rfl)) (HW.pp (.indexArr (j := 5) underlying75 sizeOf3 (.t rfl) (.const _) cQ) (HW.pp (.ld isAgg3 rfl ((hS.blk 1 rfl).celln rfl)) (HW.pp (.quo (.t rfl) (.const _) cQ) (HW.c (fun a w _ ha => enter_call0 (.cons (.t rfl) (.cons (.const _) .nil)) (en36) a ha) rfl rfl (fun w hu => pickR_any _ _ w cQ) (HW.pp (.add_w (.t rfl) (.t rfl)) (HW.pp (.fA 6 underlying24 rfl sizeOf3 rfl) (HW.nil ?_))))))))))
   intro w61 uw61
   replace hS := hS.up uw61
   refine LW.E (.store sizeOf3 (.t rfl) (.t rfl) rfl (hS.blk 2 rfl) (zQ rfl)) ?_
   intro w62 Nw62
   replace hS := hS.putB 2 rfl (show Set_ _ w62 _ (({ soB y with Kind := 1, ID := wI (1 + pickI y.d 9), Wafer := wI (1 + pickI y.e 4), Tool := wI ((pickI (wI (y.e.tdiv 4)) 8).tdiv 7), Chamber := wI ((pickI (wI (y.e.tdiv 32)) 6).tdiv 5), Recipe := wI (1 + wI ((pickI y.f 8).tdiv 7)), Revision := 1, Until := wI ((soB y).Time + pickI (wI (y.f.tdiv 8)) 9) } : Fact).cells) _ from Nw62)
   refine LW.T (CW.region (LW.pp (.indexArr (j := 5) underlying75 sizeOf3 (.t rfl) (.const _) cQ) (LW.pp (.ld isAgg3 rfl ((hS.blk 1 rfl).celln rfl)) (LW.pp (.quo (.t rfl) (.const _) cQ) (LW.K (eC (.cons (.t rfl) (.cons (.const _) .nil)) (en36)) rfl (pickR_any _ _ _ cQ) ?_)))))
   rintro _ w63 ⟨rfl, uw63⟩
   replace hS := hS.up uw63
   refine LW.pp (.mul_w (.const _) (.t rfl)) (LW.pp (.fA 16 underlying24 rfl sizeOf3 rfl) (LW.E (.store sizeOf3 (.t rfl) (.t rfl) rfl (hS.blk 2 rfl) (zQ rfl)) ?_))
   intro w64 Nw64
   replace hS := hS.putB 2 rfl (show Set_ _ w64 _ (({ soB y with Kind := 1, ID := wI (1 + pickI y.d 9), Wafer := wI (1 + pickI y.e 4), Tool := wI ((pickI (wI (y.e.tdiv 4)) 8).tdiv 7), Chamber := wI ((pickI (wI (y.e.tdiv 32)) 6).tdiv 5), Recipe := wI (1 + wI ((pickI y.f 8).tdiv 7)), Revision := 1, Until := wI ((soB y).Time + pickI (wI (y.f.tdiv 8)) 9), Value := wI (1000 * pickI (wI (y.f.tdiv 72)) 40) } : Fact).cells) _ from Nw64)
   refine LW.nil (KW.inBlock (KW.then ?_))
   (have hso := soF_p (y := y) (by omega); change Wx.Sep no w0 _ [_, _, aBlk B6 (soP y).cells _] at hS; generalize soP y = ff at hS hso)
   have hsl := soL_len (xs.take k)
   refine CW.region (LW.M rfl (LW.pp (.la isAgg24 sizeOf24 rfl ((hS.blk 2 rfl).agg)) (LW.rr (.buildSlice (xs := [ff]) (enc := Fact.cells) (mk := fun f : Fact => .agg f.cells) underlying26 sizeOf24 zeroValue24 rfl cQ (fun _ => rfl) (fun _ => rfl) (.cons (.t rfl) .nil) rfl) rfl ?_)))
   rintro _ w65 ⟨B137, cB137, rfl, NB137, yB137, xB137⟩
   replace hS := hS.up NB137.up
   have hE137 := xB137
   refine LW.rr (.appendF (enc := Fact.cells) (bytes := 160) (i := Tryz.t24) underlying26 kQ rfl rfl rfl rfl cQ (fun _ => rfl) Fact.one (.t rfl) (.t rfl) (hS.own 0 rfl) (Sl.of_els hE137) (by have := hsl; simp [maxLen]; omega) (by have := hsl; simp; omega)) rfl ?_
   intro v138 w66 Gw66
   replace hS := hS.stp 0 rfl Gw66
   refine LW.A rfl (LW.nil (KW.inBlock (KW.then (CW.region (LW.M rfl (LW.pp (.inc (.t rfl) oQ) (LW.A rfl (LW.nil (KW.round ?_)))))))))
   exact ⟨(k + 1, v138), ⟨⟨by show k + 1 ≤ _; omega, by show k + 1 ≤ _; omega⟩, by (rw [soL_yes hy hkl.2 hso]; exact hS.take 1)⟩, ⟨rfl, rfl, rfl, rfl, trivial⟩, by show xs.length - (k + 1) < xs.length - k; omega⟩
  replace h62 := dQ h62
  refine CW.S (LW.pp (.eql (.t rfl) (.const _)) (LW.A rfl (LW.T (CW.cond (.t rfl) (fun h109 => ?_) (fun h109 => ?_)))))
  ·replace h109 := dQ h109
   refine CW.S (LW.pp (.fA 0 underlying24 rfl sizeOf3 rfl) (LW.E (.store sizeOf3 (.t rfl) (.const _) rfl (hS.blk 2 rfl) (zQ rfl)) ?_))
   intro w67 Nw67
   replace hS := hS.putB 2 rfl (show Set_ _ w67 _ (({ soB y with Kind := 2 } : Fact).cells) _ from Nw67)
   refine LW.S (CW.region (LW.pp (.indexArr (j := 3) underlying75 sizeOf3 (.t rfl) (.const _) cQ) (LW.pp (.ld isAgg3 rfl ((hS.blk 1 rfl).celln rfl)) (LW.K (eC (.cons (.t rfl) (.cons (.const _) .nil)) (en36)) rfl (pickR_any _ _ _ cQ) ?_))))
   rintro _ w68 ⟨rfl, uw68⟩
   replace hS := hS.up uw68
   refine LW.pp (.add_w (.const _) (.t rfl)) (LW.pp (.fA 1 underlying24 rfl sizeOf3 rfl) (LW.E (.store sizeOf3 (.t rfl) (.t rfl) rfl (hS.blk 2 rfl) (zQ rfl)) ?_))
   intro w69 Nw69
   replace hS := hS.putB 2 rfl (show Set_ _ w69 _ (({ soB y with Kind := 2, ID := wI (1 + pickI y.d 9) } : Fact).cells) _ from Nw69)
   refine LW.T (CW.region (LW.pp (.indexArr (j := 5) underlying75 sizeOf3 (.t rfl) (.const _) cQ) (LW.pp (.ld isAgg3 rfl ((hS.blk 1 rfl).celln rfl)) (LW.K (eC (.cons (.t rfl) (.cons (.const _) .nil)) (en36)) rfl (pickR_any _ _ _ cQ) ?_))))
   rintro _ w70 ⟨rfl, uw70⟩
   replace hS := hS.up uw70
   refine LW.pp (.sub_w (.t rfl) (.const _)) (LW.pp (.fA 16 underlying24 rfl sizeOf3 rfl) (LW.E (.store sizeOf3 (.t rfl) (.t rfl) rfl (hS.blk 2 rfl) (zQ rfl)) ?_))
   intro w71 Nw71
   replace hS := hS.putB 2 rfl (show Set_ _ w71 _ (({ soB y with Kind := 2, ID := wI (1 + pickI y.d 9), Value := wI (pickI y.f 60 - 10) } : Fact).cells) _ from Nw71)
   refine LW.nil (KW.inBlock (KW.then ?_))
   (have hso := soF_m (y := y) (by omega); change Wx.Sep no w0 _ [_, _, aBlk B6 (soM y).cells _] at hS; generalize soM y = ff at hS hso)
   have hsl := soL_len (xs.take k)
   refine CW.region (LW.M rfl (LW.pp (.la isAgg24 sizeOf24 rfl ((hS.blk 2 rfl).agg)) (LW.rr (.buildSlice (xs := [ff]) (enc := Fact.cells) (mk := fun f : Fact => .agg f.cells) underlying26 sizeOf24 zeroValue24 rfl cQ (fun _ => rfl) (fun _ => rfl) (.cons (.t rfl) .nil) rfl) rfl ?_)))
   rintro _ w72 ⟨B137, cB137, rfl, NB137, yB137, xB137⟩
   replace hS := hS.up NB137.up
   have hE137 := xB137
   refine LW.rr (.appendF (enc := Fact.cells) (bytes := 160) (i := Tryz.t24) underlying26 kQ rfl rfl rfl rfl cQ (fun _ => rfl) Fact.one (.t rfl) (.t rfl) (hS.own 0 rfl) (Sl.of_els hE137) (by have := hsl; simp [maxLen]; omega) (by have := hsl; simp; omega)) rfl ?_
   intro v138 w73 Gw73
   replace hS := hS.stp 0 rfl Gw73
   refine LW.A rfl (LW.nil (KW.inBlock (KW.then (CW.region (LW.M rfl (LW.pp (.inc (.t rfl) oQ) (LW.A rfl (LW.nil (KW.round ?_)))))))))
   exact ⟨(k + 1, v138), ⟨⟨by show k + 1 ≤ _; omega, by show k + 1 ≤ _; omega⟩, by (rw [soL_yes hy hkl.2 hso]; exact hS.take 1)⟩, ⟨rfl, rfl, rfl, rfl, trivial⟩, by show xs.length - (k + 1) < xs.length - k; omega⟩
  replace h109 := dQ h109
  refine CW.S (LW.pp (.eql (.t rfl) (.const _)) (LW.A rfl (LW.T (CW.cond (.t rfl) (fun h122 => ?_) (fun h122 => ?_)))))
  ·replace h122 := dQ h122
   refine CW.S (LW.pp (.fA 0 underlying24 rfl sizeOf3 rfl) (LW.E (.store sizeOf3 (.t rfl) (.const _) rfl (hS.blk 2 rfl) (zQ rfl)) ?_))
   intro w74 Nw74
   replace hS := hS.putB 2 rfl (show Set_ _ w74 _ (({ soB y with Kind := 10 } : Fact).cells) _ from Nw74)
   refine LW.S (CW.region (LW.pp (.indexArr (j := 3) underlying75 sizeOf3 (.t rfl) (.const _) cQ) (LW.pp (.ld isAgg3 rfl ((hS.blk 1 rfl).celln rfl)) (LW.K (eC (.cons (.t rfl) (.cons (.const _) .nil)) (en36)) rfl (pickR_any _ _ _ cQ) ?_))))
   rintro _ w75 ⟨rfl, uw75⟩
   replace hS := hS.up uw75
   refine LW.pp (.quo (.t rfl) (.const _) cQ) (LW.pp (.add_w (.const _) (.t rfl)) (LW.pp (.fA 14 underlying24 rfl sizeOf3 rfl) (LW.E (.store sizeOf3 (.t rfl) (.t rfl) rfl (hS.blk 2 rfl) (zQ rfl)) ?_)))
   intro w76 Nw76
   replace hS := hS.putB 2 rfl (show Set_ _ w76 _ (({ soB y with Kind := 10, Recipe := wI (1 + wI ((pickI y.d 8).tdiv 7)) } : Fact).cells) _ from Nw76)
   refine LW.T (CW.region (LW.pp (.indexArr (j := 5) underlying75 sizeOf3 (.t rfl) (.const _) cQ) (LW.pp (.ld isAgg3 rfl ((hS.blk 1 rfl).celln rfl)) (LW.K (eC (.cons (.t rfl) (.cons (.const _) .nil)) (en36)) rfl (pickR_any _ _ _ cQ) ?_))))
   rintro _ w77 ⟨rfl, uw77⟩
   replace hS := hS.up uw77
   refine LW.pp (.fA 16 underlying24 rfl sizeOf3 rfl) (LW.E (.store sizeOf3 (.t rfl) (.t rfl) rfl (hS.blk 2 rfl) (zQ rfl)) ?_)
   intro w78 Nw78
   replace hS := hS.putB 2 rfl (show Set_ _ w78 _ (({ soB y with Kind := 10, Recipe := wI (1 + wI ((pickI y.d 8).tdiv 7)), Value := pickI y.f 40 } : Fact).cells) _ from Nw78)
   refine LW.nil (KW.inBlock (KW.then ?_))
   (have hso := soF_t (y := y) (by omega); change Wx.Sep no w0 _ [_, _, aBlk B6 (soT y).cells _] at hS; generalize soT y = ff at hS hso)
   have hsl := soL_len (xs.take k)
   refine CW.region (LW.M rfl (LW.pp (.la isAgg24 sizeOf24 rfl ((hS.blk 2 rfl).agg)) (LW.rr (.buildSlice (xs := [ff]) (enc := Fact.cells) (mk := fun f : Fact => .agg f.cells) underlying26 sizeOf24 zeroValue24 rfl cQ (fun _ => rfl) (fun _ => rfl) (.cons (.t rfl) .nil) rfl) rfl ?_)))
   rintro _ w79 ⟨B137, cB137, rfl, NB137, yB137, xB137⟩
   replace hS := hS.up NB137.up
   have hE137 := xB137
   refine LW.rr (.appendF (enc := Fact.cells) (bytes := 160) (i := Tryz.t24) underlying26 kQ rfl rfl rfl rfl cQ (fun _ => rfl) Fact.one (.t rfl) (.t rfl) (hS.own 0 rfl) (Sl.of_els hE137) (by have := hsl; simp [maxLen]; omega) (by have := hsl; simp; omega)) rfl ?_
   intro v138 w80 Gw80
   replace hS := hS.stp 0 rfl Gw80
   refine LW.A rfl (LW.nil (KW.inBlock (KW.then (CW.region (LW.M rfl (LW.pp (.inc (.t rfl) oQ) (LW.A rfl (LW.nil (KW.round ?_)))))))))
   exact ⟨(k + 1, v138), ⟨⟨by show k + 1 ≤ _; omega, by show k + 1 ≤ _; omega⟩, by (rw [soL_yes hy hkl.2 hso]; exact hS.take 1)⟩, ⟨rfl, rfl, rfl, rfl, trivial⟩, by show xs.length - (k + 1) < xs.length - k; omega⟩
  replace h122 := dQ h122
  refine CW.seq (CW.S (LW.pp (.indexArr (j := 5) underlying75 sizeOf3 (.t rfl) (.const _) cQ) (LW.pp (.ld isAgg3 rfl ((hS.blk 1 rfl).celln rfl)) (LW.K (eC (.cons (.t rfl) (.cons (.const _) .nil)) (en36)) rfl (pickR_any _ _ _ cQ) ?_))))
  rintro _ w81 ⟨rfl, uw81⟩
  replace hS := hS.up uw81
  refine LW.pp (.gtr (.t rfl) (.const _)) (LW.T (CW.cond (.t rfl) (fun h44 => ?_) (fun h44 => ?_)))
  ·replace h44 := dQ h44
   have hso := soF_n (y := y) oQ oQ oQ oQ h44
   refine CW.exit (KW.then_exit (KW.block_miss cQ (KW.then_exit (KW.block_hit (KW.then (CW.region (LW.M rfl (LW.pp (.inc (.t rfl) oQ) (LW.A rfl (LW.nil (KW.round ?_)))))))))))
   exact ⟨(k + 1, v), ⟨⟨by show k + 1 ≤ _; omega, by show k + 1 ≤ _; omega⟩, by (rw [soL_no hy hkl.2 hso]; exact hS.take 1)⟩, ⟨rfl, rfl, rfl, rfl, trivial⟩, by show xs.length - (k + 1) < xs.length - k; omega⟩
  replace h44 := dQ h44
  refine CW.skip (KW.then (CW.S (LW.pp (.fA 0 underlying24 rfl sizeOf3 rfl) (LW.E (.store sizeOf3 (.t rfl) (.const _) rfl (hS.blk 2 rfl) (zQ rfl)) ?_))))
  intro w82 Nw82
  replace hS := hS.putB 2 rfl (show Set_ _ w82 _ (({ soB y with Kind := 9 } : Fact).cells) _ from Nw82)
  refine LW.S (CW.region (LW.pp (.indexArr (j := 3) underlying75 sizeOf3 (.t rfl) (.const _) cQ) (LW.pp (.ld isAgg3 rfl ((hS.blk 1 rfl).celln rfl)) (LW.K (eC (.cons (.t rfl) (.cons (.const _) .nil)) (en36)) rfl (pickR_any _ _ _ cQ) ?_))))
  rintro _ w83 ⟨rfl, uw83⟩
  replace hS := hS.up uw83
  refine LW.pp (.add_w (.const _) (.t rfl)) (LW.pp (.fA 1 underlying24 rfl sizeOf3 rfl) (LW.E (.store sizeOf3 (.t rfl) (.t rfl) rfl (hS.blk 2 rfl) (zQ rfl)) ?_))
  intro w84 Nw84
  replace hS := hS.putB 2 rfl (show Set_ _ w84 _ (({ soB y with Kind := 9, ID := wI (1 + pickI y.d 9) } : Fact).cells) _ from Nw84)
  refine LW.S (CW.region (LW.pp (.indexArr (j := 4) underlying75 sizeOf3 (.t rfl) (.const _) cQ) (LW.pp (.ld isAgg3 rfl ((hS.blk 1 rfl).celln rfl)) (LW.K (eC (.cons (.t rfl) (.cons (.const _) .nil)) (en36)) rfl (pickR_any _ _ _ cQ) ?_))))
  rintro _ w85 ⟨rfl, uw85⟩
  replace hS := hS.up uw85
  refine LW.pp (.quo (.t rfl) (.const _) cQ) (LW.pp (.fA 11 underlying24 rfl sizeOf3 rfl) (LW.E (.store sizeOf3 (.t rfl) (.t rfl) rfl (hS.blk 2 rfl) (zQ rfl)) ?_))
  intro w86 Nw86
  replace hS := hS.putB 2 rfl (show Set_ _ w86 _ (({ soB y with Kind := 9, ID := wI (1 + pickI y.d 9), Tool := wI ((pickI y.e 8).tdiv 7) } : Fact).cells) _ from Nw86)
  refine LW.T (CW.region (LW.pp (.indexArr (j := 4) underlying75 sizeOf3 (.t rfl) (.const _) cQ) (LW.pp (.ld isAgg3 rfl ((hS.blk 1 rfl).celln rfl)) (LW.pp (.quo (.t rfl) (.const _) cQ) (LW.K (eC (.cons (.t rfl) (.cons (.const _) .nil)) (en36)) rfl (pickR_any _ _ _ cQ) ?_)))))
  rintro _ w87 ⟨rfl, uw87⟩
  replace hS := hS.up uw87
  refine LW.pp (.quo (.t rfl) (.const _) cQ) (LW.pp (.fA 12 underlying24 rfl sizeOf3 rfl) (LW.E (.store sizeOf3 (.t rfl) (.t rfl) rfl (hS.blk 2 rfl) (zQ rfl)) ?_))
  intro w88 Nw88
  replace hS := hS.putB 2 rfl (show Set_ _ w88 _ (({ soB y with Kind := 9, ID := wI (1 + pickI y.d 9), Tool := wI ((pickI y.e 8).tdiv 7), Chamber := wI ((pickI (wI (y.e.tdiv 8)) 6).tdiv 5) } : Fact).cells) _ from Nw88)
  refine LW.nil (KW.inBlock (KW.then ?_))
  (have hso := soF_r (y := y) oQ oQ oQ oQ (by omega); change Wx.Sep no w0 _ [_, _, aBlk B6 (soR y).cells _] at hS; generalize soR y = ff at hS hso)
  have hsl := soL_len (xs.take k)
  refine CW.region (LW.M rfl (LW.pp (.la isAgg24 sizeOf24 rfl ((hS.blk 2 rfl).agg)) (LW.rr (.buildSlice (xs := [ff]) (enc := Fact.cells) (mk := fun f : Fact => .agg f.cells) underlying26 sizeOf24 zeroValue24 rfl cQ (fun _ => rfl) (fun _ => rfl) (.cons (.t rfl) .nil) rfl) rfl ?_)))
  rintro _ w89 ⟨B137, cB137, rfl, NB137, yB137, xB137⟩
  replace hS := hS.up NB137.up
  have hE137 := xB137
  refine LW.rr (.appendF (enc := Fact.cells) (bytes := 160) (i := Tryz.t24) underlying26 kQ rfl rfl rfl rfl cQ (fun _ => rfl) Fact.one (.t rfl) (.t rfl) (hS.own 0 rfl) (Sl.of_els hE137) (by have := hsl; simp [maxLen]; omega) (by have := hsl; simp; omega)) rfl ?_
  intro v138 w90 Gw90
  replace hS := hS.stp 0 rfl Gw90
  refine LW.A rfl (LW.nil (KW.inBlock (KW.then (CW.region (LW.M rfl (LW.pp (.inc (.t rfl) oQ) (LW.A rfl (LW.nil (KW.round ?_)))))))))
  exact ⟨(k + 1, v138), ⟨⟨by show k + 1 ≤ _; omega, by show k + 1 ≤ _; omega⟩, by (rw [soL_yes hy hkl.2 hso]; exact hS.take 1)⟩, ⟨rfl, rfl, rfl, rfl, trivial⟩, by show xs.length - (k + 1) < xs.length - k; omega⟩
 replace h14 := dQ h14
 refine CW.exit (KW.then_exit (KW.then_exit (KW.block_hit (KW.then (CW.S (LW.M rfl (LW.A rfl (LW.T (CW.ret (KW.ret1 rfl rfl ⟨_, rfl, ?_⟩))))))))))
 rw [soL_end (by simp at h14; omega)] at hS
 exact ⟨OwnS.ofS hS, hS.upd⟩
end Go.Proofs.YtbbpkdlehlamlaaGreatDoor
end
section
namespace Go.Wx
def sameD (a b : Dec) : Bool := decide (a.run = b.run) && rtB a.par b.par && rtB a.est b.est && decide (a.uses = b.uses)
theorem sameD_iff (a b : Dec) : sameD a b = true ↔ a = b := by
 obtain ⟨a1, a2, a3, a4⟩ := a
 obtain ⟨b1, b2, b3, b4⟩ := b
 unfold sameD
 simp only [Bool.and_eq_true, decide_eq_true_eq, rtB_iff, Dec.mk.injEq, and_assoc]
theorem sameD_self (a : Dec) : sameD a a = true := (sameD_iff a a).2 rfl
def sameDs : List Dec → List Dec → Bool
 | [], [] => true
 | a :: l, b :: m => sameD a b && sameDs l m
 | _, _ => false
theorem sameDs_self : ∀ l : List Dec, sameDs l l = true
 | [] => rfl
 | a :: l => by unfold sameDs; rw [sameD_self, sameDs_self l]; rfl
theorem ints_step {l m : List Int} {k : Nat} {x y : Int} (hx : l[k]? = some x) (hy : m[k]? = some y) (h : l.take k = m.take k) (e : x = y) : l.take (k + 1) = m.take (k + 1) := by
 rw [take_one hx, take_one hy, h, e]
theorem same_no {a b : Dec} (h : (!decide (a.run = b.run) || !rtB a.par b.par || !rtB a.est b.est || !decide ((a.uses.length : Int) = (b.uses.length : Int))) = true) : sameD a b = false := by
 cases hs : sameD a b with
 | false => rfl
 | true =>
   have e := (sameD_iff a b).1 hs
   subst e
   simp [rtB_self] at h
theorem same_no2 {a b : Dec} {k : Nat} {x y : Int} (hx : a.uses[k]? = some x) (hy : b.uses[k]? = some y) (h : x ≠ y) : sameD a b = false := by
 cases hs : sameD a b with
 | false => rfl
 | true =>
   have e := (sameD_iff a b).1 hs
   subst e
   rw [hx] at hy
   exact absurd (Option.some.inj hy) h
theorem same_yes {a b : Dec} (h : (!decide (a.run = b.run) || !rtB a.par b.par || !rtB a.est b.est || !decide ((a.uses.length : Int) = (b.uses.length : Int))) = false) (hu : a.uses = b.uses) : sameD a b = true := by
 simp only [Bool.or_eq_false_iff, Bool.not_eq_false'] at h
 unfold sameD
 rw [h.1.1.1, h.1.1.2, h.1.2, hu, decide_eq_true rfl]; rfl
theorem sameDs_len : ∀ {l m : List Dec}, l.length ≠ m.length → sameDs l m = false
 | [], [], h => absurd rfl h
 | [], _ :: _, _ => rfl
 | _ :: _, [], _ => rfl
 | a :: l, b :: m, h => by unfold sameDs; rw [sameDs_len (fun e => h (by simp [e])), Bool.and_false]
theorem sameDs_step {l m : List Dec} {k : Nat} {x y : Dec} (hx : l[k]? = some x) (hy : m[k]? = some y) : sameDs (l.drop k) (m.drop k) = (sameD x y && sameDs (l.drop (k + 1)) (m.drop (k + 1))) := by
 have h1 := (gQ.1 hx)
 have h2 := (gQ.1 hy)
 rw [List.drop_eq_getElem_cons h1.1, List.drop_eq_getElem_cons h2.1, h1.2, h2.2]; rfl
theorem sameDs_end {l m : List Dec} {k : Nat} (h1 : l.length ≤ k) (h2 : m.length ≤ k) : sameDs (l.drop k) (m.drop k) = true := by
 rw [List.drop_eq_nil_of_le h1, List.drop_eq_nil_of_le h2]; rfl
theorem dp_at {L : List DP} {Ds : List Dec} {k : Nat} {p : DP} (hm : L.map DP.dec = Ds) (h : L[k]? = some p) : Ds[k]? = some p.dec := by rw [← hm, List.getElem?_map, h]; rfl
theorem dp_est {w : World} {B o : Nat} {p : DP} (h : AggAt w B o p.cells) : AggAt w B (o + 3) p.dec.est.cells := fun j v hv => by
 have h2 : p.cells[3 + j]? = some v := by
   match j with
   | 0 => simpa [Rt.cells, DP.cells, DecV.cells, Dec.v] using hv
   | 1 => simpa [Rt.cells, DP.cells, DecV.cells, Dec.v] using hv
   | j + 2 => simp [Rt.cells] at hv
 have := h (3 + j) v h2
 rwa [show o + (3 + j) = o + 3 + j by omega] at this
theorem dp_par0 {w : World} {B : Nat} {p : DP} {T : TypeId} (h : Blk w B p.cells T) : AggAt w B 1 p.dec.par.cells := by have := dp_par h.agg; rwa [Nat.zero_add] at this
theorem dp_est0 {w : World} {B : Nat} {p : DP} {T : TypeId} (h : Blk w B p.cells T) : AggAt w B 3 p.dec.est.cells := by have := dp_est h.agg; rwa [Nat.zero_add] at this
theorem els_p {w : World} {ad : Option Addr} {p q r : DP} (h : Els w ad 6 DP.cells [p, q, r]) : ∃ B o, ad = some ⟨B, o, none⟩ ∧ AggAt w B (o + 0 * 6) p.cells ∧ AggAt w B (o + 1 * 6) q.cells ∧ AggAt w B (o + 2 * 6) r.cells := by
 obtain ⟨B, o, e, h0⟩ := h 0 p rfl
 obtain ⟨B1, o1, e1, h1⟩ := h 1 q rfl
 obtain ⟨B2, o2, e2, h2⟩ := h 2 r rfl
 cases e.symm.trans e1
 cases e.symm.trans e2
 exact ⟨B, o, e, h0, h1, h2⟩
theorem dps3 {L : List DP} {a b c : Dec} (h : L.map DP.dec = [a, b, c]) : ∃ a1 c1 a2 c2 a3 c3, L = [⟨a, a1, c1⟩, ⟨b, a2, c2⟩, ⟨c, a3, c3⟩] := by
 match L, h with
 | [⟨p, a1, c1⟩, ⟨q, a2, c2⟩, ⟨r, a3, c3⟩], h =>
   injection h with h1 h
   injection h with h2 h
   injection h with h3 _
   dsimp only at h1 h2 h3
   subst h1 h2 h3
   exact ⟨a1, c1, a2, c2, a3, c3, rfl⟩
end Go.Wx
namespace Go.Proofs.YtbbpkdlehlamlaaGreatDoor
open Go.Proofs.Tryz
open Go.Wx Go.RowKit
theorem same_any (p q : DP) (w : World) (hp0 : Sl w p.uv 1 eInt p.dec.uses) (hq0 : Sl w q.uv 1 eInt q.dec.uses) (hl : p.dec.uses.length ≤ 100000) : Ret prog 46 #[.agg p.cells, .agg q.cells] w fun r w' => r = .bool (sameD p.dec q.dec) ∧ Up w w' := by
 obtain ⟨w0, rfl⟩ : ∃ w0, w0 = w := ⟨_, rfl⟩
 have hS := Sep.start no w0
 obtain ⟨ad0, cp0, ev0, hE0⟩ := hp0
 obtain ⟨ad1, cp1, ev1, hE1⟩ := hq0
 cases ev0
 cases ev1
 refine cS (n := 52) (m := 9) func46 rfl rfl rfl ?_
 refine CW.S ?_
 refine LW.rr (.boxA (.t rfl)) rfl ?_
 rintro _ w1 ⟨B2, rfl, NB2⟩
 have eB2 := NB2.at_
 have zB2 := NB2.size
 replace hS := hS.addB NB2
 change Wx.Sep _ _ _ [_] at hS
 refine LW.rr (.boxA (.t rfl)) rfl ?_
 rintro _ w2 ⟨B3, rfl, NB3⟩
 have eB3 := NB3.at_
 have zB3 := NB3.size
 replace hS := hS.addB NB3
 change Wx.Sep _ _ _ [_, _] at hS
 refine LW.C (LW.S (CW.S ?_))
 refine LW.pp (.fA 0 underlying48 rfl sizeOf3 rfl) ?_
 refine LW.pp (.ld isAgg3 rfl ((hS.blk 0 rfl).celln rfl)) ?_
 refine LW.pp (.fA 0 underlying48 rfl sizeOf3 rfl) ?_
 refine LW.pp (.ld isAgg3 rfl ((hS.blk 1 rfl).celln rfl)) ?_
 refine LW.pp (.neq (.t rfl) (.t rfl)) ?_
 refine LW.M rfl ?_
 refine LW.g rfl rfl rfl rfl rfl rfl rfl (fun hc => PEv.fA 1 underlying48 rfl sizeOf45 rfl) ?_
 refine LW.g rfl rfl rfl rfl rfl rfl rfl (fun hc => PEv.loadA isAgg45 sizeOf45 rfl vQ (dp_par0 (hS.blk 0 rfl))) ?_
 refine LW.g rfl rfl rfl rfl rfl rfl rfl (fun hc => PEv.fA 1 underlying48 rfl sizeOf45 rfl) ?_
 refine LW.g rfl rfl rfl rfl rfl rfl rfl (fun hc => PEv.loadA isAgg45 sizeOf45 rfl vQ (dp_par0 (hS.blk 1 rfl))) ?_
 refine LW.g rfl rfl rfl rfl rfl rfl rfl (fun hc => PEv.neqA eqGuardType45 (Tryz.eqRt _ _) vQ vQ) ?_
 refine LW.pp (.pick_or (.t rfl) (fun hp => (by first | exact .const _ | exact .tmp rfl | exact .cond rfl (by first | assumption | (rw [hp]; rfl) | (rw [hc, hp]; rfl) | simp_all)))) ?_
 refine LW.M rfl ?_
 refine LW.g rfl rfl rfl rfl rfl rfl rfl (fun hc => PEv.fA 3 underlying48 rfl sizeOf45 rfl) ?_
 refine LW.g rfl rfl rfl rfl rfl rfl rfl (fun hc => PEv.loadA isAgg45 sizeOf45 rfl vQ (dp_est0 (hS.blk 0 rfl))) ?_
 refine LW.g rfl rfl rfl rfl rfl rfl rfl (fun hc => PEv.fA 3 underlying48 rfl sizeOf45 rfl) ?_
 refine LW.g rfl rfl rfl rfl rfl rfl rfl (fun hc => PEv.loadA isAgg45 sizeOf45 rfl vQ (dp_est0 (hS.blk 1 rfl))) ?_
 refine LW.g rfl rfl rfl rfl rfl rfl rfl (fun hc => PEv.neqA eqGuardType45 (Tryz.eqRt _ _) vQ vQ) ?_
 refine LW.pp (.pick_or (.t rfl) (fun hp => (by first | exact .const _ | exact .tmp rfl | exact .cond rfl (by first | assumption | (rw [hp]; rfl) | (rw [hc, hp]; rfl) | simp_all)))) ?_
 refine LW.M rfl ?_
 refine LW.g rfl rfl rfl rfl rfl rfl rfl (fun hc => PEv.fA 5 underlying48 rfl sizeOf46 rfl) ?_
 refine LW.g rfl rfl rfl rfl rfl rfl rfl (fun hc => PEv.load isAgg46 vQ ((hS.blk 0 rfl).celln rfl)) ?_
 refine LW.g rfl rfl rfl rfl rfl rfl rfl (fun hc => PEv.lenS underlying46 vQ) ?_
 refine LW.g rfl rfl rfl rfl rfl rfl rfl (fun hc => PEv.fA 5 underlying48 rfl sizeOf46 rfl) ?_
 refine LW.g rfl rfl rfl rfl rfl rfl rfl (fun hc => PEv.load isAgg46 vQ ((hS.blk 1 rfl).celln rfl)) ?_
 refine LW.g rfl rfl rfl rfl rfl rfl rfl (fun hc => PEv.lenS underlying46 vQ) ?_
 refine LW.g rfl rfl rfl rfl rfl rfl rfl (fun hc => PEv.neq vQ vQ) ?_
 refine LW.pp (.pick_or (.t rfl) (fun hp => (by first | exact .const _ | exact .tmp rfl | exact .cond rfl (by first | assumption | (rw [hp]; rfl) | (rw [hc, hp]; rfl) | simp_all)))) ?_
 refine LW.T ?_
 refine CW.cond (.t rfl) (fun h33 => ?_) (fun h33 => ?_)
 ·replace h33 := dQ h33
  have hno : sameD p.dec q.dec = false := same_no h33
  refine CW.S (LW.C (LW.T (CW.ret (KW.then_ret ?_))))
  refine KW.ret1 rfl rfl ⟨_, rfl, ?_⟩
  first | exact ⟨by rw [hno], hS.upd⟩ | exact ⟨by rw [same_yes hyes (by have hkl : k = p.dec.uses.length := (by omega); rw [hkl, List.take_length, hll, List.take_length] at ht; exact ht)], hS.upd⟩
 replace h33 := dQ h33
 have hyes : (!decide (p.dec.run = q.dec.run) || !rtB p.dec.par q.dec.par || !rtB p.dec.est q.dec.est || !decide ((p.dec.uses.length : Int) = (q.dec.uses.length : Int))) = false := h33
 have hll : p.dec.uses.length = q.dec.uses.length := by simp at hyes; omega
 refine CW.skip (KW.then (CW.seq (CW.S (LW.C (LW.T (CW.block ?_))))))
 refine CW.loopB (σ := Nat) (fun s w => (s ≤ p.dec.uses.length) ∧ (p.dec.uses.take s = q.dec.uses.take s) ∧ (Wx.Sep no w0 w [aBlk B2 p.cells 48, aBlk B3 q.cells 48])) (fun s => [(5, .eq (vi (s : Int)))]) ([(2, .eq _), (3, .eq _)]) (fun s => p.dec.uses.length - s) 0 ?_ ⟨rfl, rfl, rfl, trivial⟩ ?_
 ·exact ⟨Nat.zero_le _, rfl, hS⟩
 rintro k w3 ⟨hk, ht, hS⟩
 refine CW.seq (CW.S (LW.M rfl ?_))
 refine LW.pp (.fA 5 underlying48 rfl sizeOf46 rfl) ?_
 refine LW.pp (.ld isAgg46 rfl ((hS.blk 0 rfl).celln rfl)) ?_
 refine LW.pp (.lenS underlying46 (.t rfl)) ?_
 refine LW.pp (.lss (.t rfl) (.t rfl)) ?_
 refine LW.T ?_
 refine CW.cond (.t rfl) (fun h38 => ?_) (fun h38 => ?_)
 ·replace h38 := dQ h38
  refine CW.skip (KW.then (CW.seq (CW.block (CW.seq ?_))))
  obtain ⟨x, hx⟩ := getElem?_of_lt (xs := p.dec.uses) (i := k) oQ
  obtain ⟨y, hy⟩ := getElem?_of_lt (xs := q.dec.uses) (i := k) oQ
  obtain ⟨Bx, ox, ax, hcx⟩ := (Els.up hE0 hS.upd) k x hx
  obtain ⟨By, oy, ay, hcy⟩ := (Els.up hE1 hS.upd) k y hy
  refine CW.draws kQ kQ rfl rfl ?_
  refine HW.pp (.fA 5 underlying48 rfl sizeOf46 rfl) ?_
  refine HW.pp (.ld isAgg46 rfl ((hS.blk 0 rfl).celln rfl)) ?_
  refine HW.pp (.move (.t rfl)) ?_
  refine HW.pp (.indexAddr' underlying46 sizeOf3 (.t rfl) (.t rfl) oQ ax) ?_
  refine HW.pp (.ld isAgg3 rfl (hcx.nth (j := 0) rfl)) ?_
  refine HW.pp (.fA 5 underlying48 rfl sizeOf46 rfl) ?_
  refine HW.pp (.ld isAgg46 rfl ((hS.blk 1 rfl).celln rfl)) ?_
  refine HW.pp (.move (.t rfl)) ?_
  refine HW.pp (.indexAddr' underlying46 sizeOf3 (.t rfl) (.t rfl) oQ ay) ?_
  refine HW.pp (.ld isAgg3 rfl (hcy.nth (j := 0) rfl)) ?_
  refine HW.pp (.neq (.t rfl) (.t rfl)) ?_
  refine HW.nil ?_
  intro w4 uw4
  have zw4 := uw4.size
  replace hS := hS.up uw4
  refine KW.then ?_
  refine CW.cond (.t rfl) (fun h51 => ?_) (fun h51 => ?_)
  ·replace h51 := dQ h51
   have hno : sameD p.dec q.dec = false := same_no2 hx hy (by simpa using h51)
   refine CW.S (LW.C (LW.T (CW.ret (KW.block_ret (KW.then_ret (KW.then_ret (KW.block_ret (KW.then_ret ?_))))))))
   refine KW.ret1 rfl rfl ⟨_, rfl, ?_⟩
   first | exact ⟨by rw [hno], hS.upd⟩ | exact ⟨by rw [same_yes hyes (by have hkl : k = p.dec.uses.length := (by omega); rw [hkl, List.take_length, hll, List.take_length] at ht; exact ht)], hS.upd⟩
  replace h51 := dQ h51
  have hxy : x = y := by simpa using h51
  refine CW.skip (KW.inBlock (KW.then (CW.region (LW.M rfl ?_))))
  refine LW.pp (.inc (.t rfl) oQ) ?_
  refine LW.A rfl (LW.nil (KW.round ?_))
  exact ⟨k + 1, ⟨by omega, ints_step hx hy ht hxy, hS.take 2⟩, ⟨rfl, rfl, rfl, trivial⟩, by omega⟩
 replace h38 := dQ h38
 refine CW.exit (KW.then_exit (KW.then_exit (KW.block_hit (KW.then (CW.S (LW.C (LW.T (CW.ret ?_))))))))
 refine KW.ret1 rfl rfl ⟨_, rfl, ?_⟩
 first | exact ⟨by rw [hno], hS.upd⟩ | exact ⟨by rw [same_yes hyes (by have hkl : k = p.dec.uses.length := (by omega); rw [hkl, List.take_length, hll, List.take_length] at ht; exact ht)], hS.upd⟩
theorem sameList_any (v1 v2 : Go.Value) (l m : List Dec) (w : World) (h1 : DecsE w v1 l) (h2 : DecsE w v2 m) (hl : l.length ≤ 100000) (hu0 : ∀ D ∈ l, D.uses.length ≤ 100000) : Ret prog 18 #[v1, v2] w fun r w' => r = .bool (sameDs l m) ∧ Up w w' := by
 have hW := Up.refl w
 obtain ⟨w0, rfl⟩ : ∃ w0, w0 = w := ⟨_, rfl⟩
 obtain ⟨L, ⟨ad1, cp1, rfl, hE1⟩, hL1, hm1⟩ := h1
 obtain ⟨M, ⟨ad2, cp2, rfl, hE2⟩, hL2, hm2⟩ := h2
 have hz1 : L.length = l.length := by rw [← hm1, List.length_map]
 have hz2 : M.length = m.length := by rw [← hm2, List.length_map]
 refine cS (n := 27) (m := 9) func18 rfl rfl rfl ?_
 refine CW.S (LW.C (LW.S (CW.S (LW.M rfl ?_))))
 refine LW.pp (.lenS underlying38 (.t rfl)) ?_
 refine LW.M rfl ?_
 refine LW.pp (.lenS underlying38 (.t rfl)) ?_
 refine LW.pp (.neq (.t rfl) (.t rfl)) ?_
 refine LW.T ?_
 refine CW.cond (.t rfl) (fun h10 => ?_) (fun h10 => ?_)
 ·replace h10 := dQ h10
  have hne : l.length ≠ m.length := by simp at h10; omega
  refine CW.S (LW.C (LW.T (CW.ret (KW.then_ret ?_))))
  refine KW.ret1 rfl rfl ⟨_, rfl, ?_⟩
  first | exact ⟨by rw [sameDs_len hne], hW⟩ | exact ⟨by rw [ht, sameDs_step hdx hdy, hno, Bool.false_and], hW⟩ | exact ⟨by rw [ht, sameDs_end oQ (by omega)], hW⟩
 replace h10 := dQ h10
 have hlm : l.length = m.length := by simp at h10; omega
 refine CW.skip (KW.then (CW.seq (CW.S (LW.C (LW.T (CW.block ?_))))))
 refine CW.loopB (σ := Nat) (fun s w => (s ≤ L.length) ∧ (sameDs l m = sameDs (l.drop s) (m.drop s)) ∧ (Up w0 w)) (fun s => [(5, .eq (vi (s : Int)))]) ([(0, .eq _), (1, .eq _)]) (fun s => L.length - s) 0 ?_ ⟨rfl, rfl, rfl, trivial⟩ ?_
 ·exact ⟨Nat.zero_le _, rfl, hW⟩
 rintro k w1 ⟨hk, ht, hW⟩
 refine CW.seq (CW.S (LW.M rfl (LW.M rfl ?_)))
 refine LW.pp (.lenS underlying38 (.t rfl)) ?_
 refine LW.pp (.lss (.t rfl) (.t rfl)) ?_
 refine LW.T ?_
 refine CW.cond (.t rfl) (fun h14 => ?_) (fun h14 => ?_)
 ·replace h14 := dQ h14
  refine CW.skip (KW.then (CW.seq (CW.block (CW.seq ?_))))
  obtain ⟨x, hx⟩ := getElem?_of_lt (xs := L) (i := k) oQ
  obtain ⟨y, hy⟩ := getElem?_of_lt (xs := M) (i := k) oQ
  obtain ⟨Bx, ox, ax, hcx⟩ := (Els.up hE1 hW) k x hx
  obtain ⟨By, oy, ay, hcy⟩ := (Els.up hE2 hW) k y hy
  have hdx := dp_at hm1 hx
  have hdy := dp_at hm2 hy
  refine CW.draws kQ kQ rfl rfl ?_
  refine HW.pp (.move (.t rfl)) ?_
  refine HW.pp (.move (.t rfl)) ?_
  refine HW.pp (.indexAddr' underlying38 sizeOf48 (.t rfl) (.t rfl) oQ ax) ?_
  refine HW.pp (.la isAgg48 sizeOf48 rfl (hcx)) ?_
  refine HW.pp (.move (.t rfl)) ?_
  refine HW.pp (.move (.t rfl)) ?_
  refine HW.pp (.indexAddr' underlying38 sizeOf48 (.t rfl) (.t rfl) oQ ay) ?_
  refine HW.pp (.la isAgg48 sizeOf48 rfl (hcy)) ?_
  refine HW.c (fun a w _ ha => enter_call0 (.cons (.t rfl) (.cons (.t rfl) .nil)) (en46) a ha) rfl rfl (fun w hu => same_any x y w ((hL1 x (List.mem_of_getElem? hx)).up (hW.trans hu)) ((hL2 y (List.mem_of_getElem? hy)).up (hW.trans hu)) (hu0 _ (List.mem_of_getElem? hdx))) ?_
  refine HW.pp (.not (.t rfl)) ?_
  refine HW.nil ?_
  intro w2 uw2
  have zw2 := uw2.size
  replace hW := hW.up uw2
  refine KW.then ?_
  refine CW.cond (.t rfl) (fun h26 => ?_) (fun h26 => ?_)
  ·replace h26 := dQ h26
   have hno : sameD x.dec y.dec = false := by simpa using h26
   refine CW.S (LW.C (LW.T (CW.ret (KW.block_ret (KW.then_ret (KW.then_ret (KW.block_ret (KW.then_ret ?_))))))))
   refine KW.ret1 rfl rfl ⟨_, rfl, ?_⟩
   first | exact ⟨by rw [sameDs_len hne], hW⟩ | exact ⟨by rw [ht, sameDs_step hdx hdy, hno, Bool.false_and], hW⟩ | exact ⟨by rw [ht, sameDs_end oQ (by omega)], hW⟩
  replace h26 := dQ h26
  have hys : sameD x.dec y.dec = true := by simpa using h26
  refine CW.skip (KW.inBlock (KW.then (CW.region (LW.M rfl ?_))))
  refine LW.pp (.inc (.t rfl) oQ) ?_
  refine LW.A rfl (LW.nil (KW.round ?_))
  exact ⟨k + 1, ⟨by omega, by rw [ht, sameDs_step hdx hdy, hys, Bool.true_and], hW⟩, ⟨rfl, rfl, rfl, trivial⟩, by first | omega | (dsimp only; omega)⟩
 replace h14 := dQ h14
 refine CW.exit (KW.then_exit (KW.then_exit (KW.block_hit (KW.then (CW.S (LW.C (LW.T (CW.ret ?_))))))))
 refine KW.ret1 rfl rfl ⟨_, rfl, ?_⟩
 first | exact ⟨by rw [sameDs_len hne], hW⟩ | exact ⟨by rw [ht, sameDs_step hdx hdy, hno, Bool.false_and], hW⟩ | exact ⟨by rw [ht, sameDs_end oQ (by omega)], hW⟩
end Go.Proofs.YtbbpkdlehlamlaaGreatDoor
end
section
namespace Go.Wx
theorem lst_mem {l : List Fact} {d : Int} {j : Nat} (hj : j < 11) {x : Fact} : x ∈ lstOf (ofB l d) j ↔ eff l d x ∧ x.Gone = false ∧ x.Kind = ((j + 1 : Nat) : Int) := by
 rw [lst_ofB l d hj]
 unfold lstAt
 rw [if_pos (List.mem_singleton.2 rfl), (sortK_sts _).same.mem, List.mem_filter, best_eff]
 simp
theorem eff_valid {l : List Fact} {d : Int} {x : Fact} (h : eff l d x) : validB x = true := keyB_valid h.2.1
theorem eff_key {l : List Fact} {d : Int} {x y : Fact} (hx : eff l d x) (hy : eff l d y) (e : keyB x = keyB y) : x = y := prev_total (eff_valid hx) (eff_valid hy) e (hy.2.2.2 x hx.1 hx.2.2.1) (hx.2.2.2 y hy.1 hy.2.2.1)
theorem lst_nodup (l : List Fact) (d : Int) {j : Nat} (hj : j < 11) : (lstOf (ofB l d) j).Nodup := by
 rw [lst_ofB l d hj]
 unfold lstAt
 rw [if_pos (List.mem_singleton.2 rfl)]
 exact ((sortK_sts _).same.perm.nodup_iff).2 ((factsM_nodup l d).filter _)
theorem sorted_eq {α : Type} {key : α → K2} {A B : List α} (hA : srt key A) (hB : srt key B) (hp : A.Perm B) (hd : ∀ x ∈ A, ∀ y ∈ A, key x = key y → x = y) : A = B := by
 rw [(StS.refl hA).eq, (StS.refl hB).eq]
 exact sortK_perm hp hd
theorem lst_srt (l : List Fact) (d : Int) {j : Nat} (hj : j < 11) : srt (ordK ((j + 1 : Nat) : Int)) (lstOf (ofB l d) j) := by
 rw [lst_ofB l d hj]; unfold lstAt; rw [if_pos (List.mem_singleton.2 rfl)]; exact (sortK_sts _).ord
theorem desF_uses (b : Base) (t c r : Int) : ∀ D ∈ desF b t c r, D.uses.length ≤ (rnsF b t c r).length := fun D hD => by
 unfold desF at hD
 obtain ⟨i, hi, rfl⟩ := List.mem_map.1 hD
 have hi := List.mem_range.1 hi
 obtain ⟨x, hx⟩ := getElem?_of_lt hi
 rw [decAt_some hx]
 refine Nat.le_trans (decF_uses b t c r x.Time _) ?_
 rw [List.length_take]; omega
def shortN (n : Nat) (b : Base) : Prop := ∀ j, (lstOf b j).length ≤ n
theorem ofB_shortN {l : List Fact} {n : Nat} (h : l.length ≤ n) (d : Int) : shortN n (ofB l d) := fun j => by
 by_cases hj : j < 11
 · rw [lst_ofB l d hj]
   exact Nat.le_trans (lst_len _ _ _) (Nat.le_trans (factsM_len l d) h)
 rw [lstOf_big _ hj]; simp
end Go.Wx
namespace Go.Proofs.YtbbpkdlehlamlaaGreatDoor
open Go.Proofs.Tryz
open Go.Wx Go.RowKit
end Go.Proofs.YtbbpkdlehlamlaaGreatDoor
end
section
namespace Go.Wx
theorem sortK_filter {α : Type} {key : α → K2} (p : α → Bool) (l : List α) : (sortK key l).filter p = sortK key (l.filter p) :=
 StS.unique ⟨(sortK_sts l).ord.sublist List.filter_sublist, fun k => by
   rw [List.filter_filter, List.filter_filter]
   have h := (sortK_sts (key := key) l).same k
   rw [show (fun x => (key x == k) && p x) = fun x => p x && (key x == k) from funext fun x => Bool.and_comm _ _, ← List.filter_filter, ← List.filter_filter, h]⟩ (sortK_sts _)
theorem rnsF_sort (b : Base) (t c r : Int) : rnsF b t c r = sortK runK ((b.Processes.filter (runP t c)).filter fun x => decide (x.Recipe = r)) := by unfold rnsF runsB; rw [sortK_filter]
theorem rns_mem {b : Base} {t c r : Int} {x : Fact} : x ∈ rnsF b t c r ↔ x ∈ b.Processes ∧ x.Tool = t ∧ x.Chamber = c ∧ x.Recipe = r := by
 rw [rnsF_sort, (sortK_sts _).same.mem, List.mem_filter, List.mem_filter]
 unfold runP
 simp only [Bool.and_eq_true, decide_eq_true_eq]
 exact ⟨fun ⟨⟨a, b, c⟩, d⟩ => ⟨a, b, c, d⟩, fun ⟨a, b, c, d⟩ => ⟨⟨a, b, c⟩, d⟩⟩
theorem sumF_congr {M T M' T' : List Fact} {r t : Int} : ∀ {l : List Fact}, (∀ x ∈ l, devF M T r x t = devF M' T' r x t) → ∀ s, l.foldl (sumStep M T r t) s = l.foldl (sumStep M' T' r t) s
 | [], _, _ => rfl
 | x :: l, h, s => by
   rw [List.foldl_cons, List.foldl_cons, sumF_congr (fun y hy => h y (List.mem_cons_of_mem _ hy))]
   congr 1
   unfold sumStep
   rw [h x List.mem_cons_self]
theorem since_mem : ∀ {rs a : List Fact} {x : Fact}, x ∈ sinceF rs a ↔ x ∈ a ∧ ∀ y ∈ rs, y.Time ≤ x.Time
 | [], a, x => by simp [sinceF]
 | y :: rs, a, x => by
   have e : sinceF (y :: rs) a = sinceF rs (a.filter fun x => decide (y.Time ≤ x.Time)) := rfl
   rw [e, since_mem, List.mem_filter]
   simp only [decide_eq_true_eq, List.forall_mem_cons]
   exact ⟨fun ⟨⟨a, b⟩, c⟩ => ⟨a, b, c⟩, fun ⟨a, b, c⟩ => ⟨⟨a, b⟩, c⟩⟩
theorem decF_congr {b b' : Base} {t c r time : Int} {a : List Fact} (hR : resL b t c time = resL b' t c time) (hT : ∀ tm, tarF b.Targets r tm = tarF b'.Targets r tm) (hM : ∀ x ∈ a, (b.Measures.find? fun y => decide (y.ID = x.ID)) = (b'.Measures.find? fun y => decide (y.ID = x.ID))) : decF b t c r time a = decF b' t c r time a := by
 have hd : ∀ x ∈ sinceF (resL b' t c time) a, devF b.Measures b.Targets r x time = devF b'.Measures b'.Targets r x time := fun x hx => by
   unfold devF
   rw [hM x (since_mem.1 hx).1, hT]
 have hs : sumF b.Measures b.Targets r time (sinceF (resL b' t c time) a) = sumF b'.Measures b'.Targets r time (sinceF (resL b' t c time) a) := sumF_congr hd _
 unfold decF
 rw [hR, hT, hs]
theorem desF_congr {b b' : Base} {t c r : Int} (hP : rnsF b t c r = rnsF b' t c r) (hR : ∀ time, resL b t c time = resL b' t c time) (hT : ∀ tm, tarF b.Targets r tm = tarF b'.Targets r tm) (hM : ∀ x ∈ rnsF b t c r, (b.Measures.find? fun y => decide (y.ID = x.ID)) = (b'.Measures.find? fun y => decide (y.ID = x.ID))) : desF b t c r = desF b' t c r := by
 unfold desF
 rw [← hP]
 refine List.map_congr_left fun i hi => ?_
 have hi := List.mem_range.1 hi
 obtain ⟨x, hx⟩ := getElem?_of_lt hi
 rw [decAt_some hx, decAt_some hx, decF_congr (hR _) hT (fun y hy => hM y (List.mem_of_mem_take hy))]
theorem tgF_filter (r t : Int) : ∀ (l : List Fact) (s : Fact × Bool), (l.filter fun x => decide (x.Recipe = r)).foldl (tgStep r t) s = l.foldl (tgStep r t) s
 | [], _ => rfl
 | x :: l, s => by
   rw [List.foldl_cons]
   by_cases h : x.Recipe = r
   · rw [List.filter_cons_of_pos (by simpa using h), List.foldl_cons]
     exact tgF_filter r t l _
   rw [List.filter_cons_of_neg (by simpa using h), tg_no (by simp [h])]
   exact tgF_filter r t l _
theorem tarF_filter (T : List Fact) (r t : Int) : tarF (T.filter fun x => decide (x.Recipe = r)) r t = tarF T r t := by
 have h : tgF r t (T.filter fun x => decide (x.Recipe = r)) = tgF r t T := tgF_filter r t T _
 unfold tarF
 rw [h]
end Go.Wx
namespace Go.Proofs.YtbbpkdlehlamlaaGreatDoor
open Go.Proofs.Tryz
open Go.Wx Go.RowKit
end Go.Proofs.YtbbpkdlehlamlaaGreatDoor
end
section
namespace Go.Wx
def p3 (t c r : Int) (f : Fact) : Bool := decide (f.Tool = t) && decide (f.Chamber = c) && decide (f.Recipe = r)
def isP (P : List Fact) (id : Int) : Bool := (P.find? fun x => decide (x.ID = id)).isSome
def otherB (b : Base) (t c r : Int) : Base := ⟨b.Processes.filter (p3 t c r), b.Measures.filter fun m => isP (b.Processes.filter (p3 t c r)) m.ID, [], [], [], [], [], [], b.Resets.filter (runP t c), b.Targets.filter fun f => decide (f.Recipe = r), []⟩
theorem filt_find {p : Fact → Bool} {id : Int} : ∀ {l : List Fact}, (∀ f ∈ l, f.ID = id → p f = true) → (l.filter p).find? (fun y => decide (y.ID = id)) = l.find? fun y => decide (y.ID = id)
 | [], _ => rfl
 | x :: l, h => by
   have ih := filt_find (p := p) (id := id) (l := l) fun f hf => h f (List.mem_cons_of_mem _ hf)
   by_cases hx : x.ID = id
   · rw [List.filter_cons_of_pos (h x List.mem_cons_self hx), List.find?_cons_of_pos (by simpa using hx), List.find?_cons_of_pos (by simpa using hx)]
   rw [List.find?_cons_of_neg (by simpa using hx)]
   by_cases hp : p x = true
   · rw [List.filter_cons_of_pos hp, List.find?_cons_of_neg (by simpa using hx)]; exact ih
   rw [List.filter_cons_of_neg hp]; exact ih
theorem isP_mem {P : List Fact} {x : Fact} (h : x ∈ P) : isP P x.ID = true := by
 unfold isP
 rw [List.find?_isSome]
 exact ⟨x, h, by simp⟩
theorem other_des (b : Base) (t c r : Int) : desF (otherB b t c r) t c r = desF b t c r := by
 symm
 refine desF_congr ?_ (fun time => ?_) (fun tm => ?_) (fun x hx => ?_)
 · rw [rnsF_sort, rnsF_sort]
   congr 1
   show (b.Processes.filter _).filter _ = ((b.Processes.filter _).filter _).filter _
   rw [List.filter_filter, List.filter_filter, List.filter_filter]
   congr 1
   funext x
   unfold runP p3
   cases decide (x.Tool = t) <;> cases decide (x.Chamber = c) <;> cases decide (x.Recipe = r) <;> rfl
 · show b.Resets.filter _ = (b.Resets.filter _).filter _
   rw [List.filter_filter]
   congr 1
   funext x
   unfold runP hereF
   cases decide (x.Tool = t) <;> cases decide (x.Chamber = c) <;> cases decide (x.Time ≤ time) <;> rfl
 · exact (tarF_filter _ _ _).symm
 refine (filt_find fun f hf e => ?_).symm
 have hm := rns_mem.1 hx
 rw [e]
 exact isP_mem (List.mem_filter.2 ⟨hm.1, by unfold p3; simp [hm.2.1, hm.2.2.1, hm.2.2.2]⟩)
theorem keyF_sub {k : Int} (h : 1 ≤ k ∧ k ≤ 11) : ∀ x ∈ keyFOf k, x ∈ fieldsOf k := by
 have hc : k = 1 ∨ k = 2 ∨ k = 3 ∨ k = 4 ∨ k = 5 ∨ k = 6 ∨ k = 7 ∨ k = 8 ∨ k = 9 ∨ k = 10 ∨ k = 11 := by omega
 rcases hc with rfl | rfl | rfl | rfl | rfl | rfl | rfl | rfl | rfl | rfl | rfl <;>
   simp [keyFOf, fieldsOf, shapeK, shapeF, fIds, fWhen, fWho]
theorem keyL_in {f : Fact} (hf : validB f = true) : ∀ x ∈ keyL f, inW x := fun x hx => by
 have hk := valid_kind hf
 unfold keyL at hx
 rcases List.mem_cons.1 hx with rfl | hx
 · exact ⟨by omega, by omega⟩
 obtain ⟨y, hy, rfl⟩ := List.mem_map.1 hx
 exact (valid_parts hf).2.1 y (keyF_sub hk y hy)
theorem key_vals {f g : Fact} (hf : validB f = true) (hg : validB g = true) (h : keyB f = keyB g) : f.Kind = g.Kind ∧ valsOf (keyFOf f.Kind) f = valsOf (keyFOf f.Kind) g := by
 have hk := key_kind hf hg h
 unfold keyB at h
 rw [if_pos hf, if_pos hg] at h
 have e := (encIs_cut (r := []) (s := []) (keyL_in hf) (keyL_in hg) (by unfold keyL; simp [valsOf, hk]) (by rw [h])).1
 unfold keyL at e
 rw [← hk] at e
 exact ⟨hk, (List.cons.inj e).2⟩
end Go.Wx
namespace Go.Proofs.YtbbpkdlehlamlaaGreatDoor
open Go.Proofs.Tryz
open Go.Wx Go.RowKit
end Go.Proofs.YtbbpkdlehlamlaaGreatDoor
end
section
namespace Go.Wx
def N0 : Value := .slice none 0 0
theorem sl0 (w : World) : Sl w N0 19 Fact.cells ([] : List Fact) := Sl.nil w 19 Fact.cells
end Go.Wx
namespace Go.Proofs.YtbbpkdlehlamlaaGreatDoor
open Go.Proofs.Tryz
open Go.Wx Go.RowKit
end Go.Proofs.YtbbpkdlehlamlaaGreatDoor
end
