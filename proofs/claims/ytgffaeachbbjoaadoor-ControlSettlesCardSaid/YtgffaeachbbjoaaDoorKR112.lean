import Derived.Test.YtgffaeachbbjoaaDoorKR111
section
namespace Go.Wx
section
variable {P : Program} {n : Nat} {l : Env} {w : World} {fn : Func} {RR : Ending → World → Prop}
theorem KW.retBB {t u : Tmp} {T T' : TypeId} {B B' : Nat} {y x : Value} (hr : fn.results = #[.cell t T, .cell u T']) (hv : lk l t = some (.eq (.pointer (some ⟨B, 0, none⟩)))) (hu : lk l u = some (.eq (.pointer (some ⟨B', 0, none⟩)))) (hT : ∀ w, (isAgg T).run P w = .ok false w) (hy : w.cell? ⟨B, 0, none⟩ = some y)
    (hT' : ∀ w, (isAgg T').run P w = .ok false w) (hx : w.cell? ⟨B', 0, none⟩ = some x) (hR : RR (.returned (.tuple #[y, x])) w) : KW n [] (bodyPost P fn RR .ret) l w := fun a ha =>
  ⟨ha.defers, .tuple #[y, x], by
    have h1 : a.tmps.getD t undef = .pointer (some ⟨B, 0, none⟩) := ha.val _ _ hv
    have h2 : a.tmps.getD u undef = .pointer (some ⟨B', 0, none⟩) := ha.val _ _ hu
    rw [Array.getD_eq_getD_getElem?] at h1 h2
    simp [results, hr, h1, h2, asAddr, run_loadVar1 hT hy, run_loadVar1 hT' hx], hR⟩
theorem KW.retATT {t u s : Tmp} {T : TypeId} {B k : Nat} {cs : Array Value} {x y : Value} (hr : fn.results = #[.cell t T, .tmp u, .tmp s]) (hv : lk l t = some (.eq (.pointer (some ⟨B, 0, none⟩)))) (hu : lk l u = some (.eq x)) (hs' : lk l s = some (.eq y)) (hT : ∀ w, (isAgg T).run P w = .ok true w) (hs : ∀ w, (sizeOf T).run P w = .ok k w) (hk : cs.size = k)
    (hc : AggAt w B 0 cs) (hR : RR (.returned (.tuple #[.agg cs, x, y])) w) : KW n [] (bodyPost P fn RR .ret) l w := fun a ha =>
  ⟨ha.defers, .tuple #[.agg cs, x, y], by
    have h1 : a.tmps.getD t undef = .pointer (some ⟨B, 0, none⟩) := ha.val _ _ hv
    have h2 : a.tmps.getD u undef = x := ha.val _ _ hu
    have h3 : a.tmps.getD s undef = y := ha.val _ _ hs'
    rw [Array.getD_eq_getD_getElem?] at h1 h2 h3
    simp [results, hr, h1, h2, h3, asAddr, run_loadVarA hT hs hk hc], hR⟩
end
theorem Sep.add2 {S0 : Nat → Prop} {w0 w w' : World} {As : List Asr} {A B : Asr} (h : Sep S0 w0 w As) (u : Up w w') (h1 : A.holds w') (h2 : B.holds w') (n1 : ∀ i, A.foot i → w.heap.size ≤ i) (n2 : ∀ i, B.foot i → w.heap.size ≤ i) (hd : ∀ i, A.foot i → ¬ B.foot i) : Sep S0 w0 w' (As ++ [A, B]) := by
  have h3 := h.add u (A' := aAnd [A, B]) ⟨fun C hC => by simp at hC; rcases hC with rfl | rfl <;> assumption, by simpa using hd⟩ (fun i ⟨C, hC, hi⟩ => by simp at hC; rcases hC with rfl | rfl <;> first | exact n1 i hi | exact n2 i hi)
  have h4 := Sep.unfold (Bs := As) (As := [A, B]) (rest := []) h3
  simpa using h4
theorem Sep.snocA {S0 : Nat → Prop} {w0 w : World} {Bs As : List Asr} {A : Asr} (h : Sep S0 w0 w (Bs ++ [aAnd As, A])) : Sep S0 w0 w (Bs ++ [aAnd (As ++ [A])]) := by
  have h1 := Sep.unfold (Bs := Bs) (As := As) (rest := [A]) h
  have h2 := Sep.fold (Bs := Bs) (As := As ++ [A]) (rest := []) (by simpa using h1)
  exact h2
theorem own_blk {α : Type} {enc : α → Array Value} {w : World} {b e k B : Nat} {v : Value} {xs : List α} {cs : Array Value} {T : TypeId} (h : OwnS w b e k enc v xs) (hb : Blk w B cs T) (hT : e ≠ T) : v.ownBlock ≠ some B := fun hv => by
  obtain ⟨h1, h2⟩ := h
  rcases h2 with h2 | ⟨g, cap, cur, rfl, hb2, hg, rest⟩
  · rw [h2.1] at hv; cases hv
  · cases hv
    have := hg.symm.trans hb
    cases this
    exact hT rfl
structure DP where
  dec : Dec
  ad : Option Addr
  cp : Nat
def DP.uv (p : DP) : Value := .slice p.ad p.dec.uses.length p.cp
def DP.cells (p : DP) : Array Value := (p.dec.v p.uv).cells
theorem DP.one (p : DP) : p.cells.all (·.oneCell') = true := decV_one _ rfl
def usesA (ti : TypeId) (L : List DP) : List Asr := L.map fun p => aOwn ti 1 eInt p.uv p.dec.uses
theorem usesA_snoc (ti : TypeId) (L : List DP) (p : DP) : usesA ti L ++ [aOwn ti 1 eInt p.uv p.dec.uses] = usesA ti (L ++ [p]) := by unfold usesA; rw [List.map_append]; rfl
theorem usesA_get {ti : TypeId} {L : List DP} {w : World} (h : (aAnd (usesA ti L)).holds w) : ∀ p ∈ L, Sl w p.uv 1 eInt p.dec.uses := fun p hp => OwnS.sl (show OwnS w 0 ti 1 eInt p.uv p.dec.uses from h.1 _ (List.mem_map.2 ⟨p, hp, rfl⟩)) (fun _ => rfl)
def DecE (w : World) (v : Value) (D : Dec) : Prop := ∃ ad cp, v = .agg (DP.cells ⟨D, ad, cp⟩) ∧ Sl w (.slice ad D.uses.length cp) 1 eInt D.uses
def dec0 : Dec := ⟨0, rz, rz, []⟩
def decAt (b : Base) (t c r : Int) (rs : List Fact) (i : Nat) : Dec := match rs[i]? with
  | some x => { decF b t c r x.Time (rs.take i) with run := x.ID }
  | none => dec0
theorem decAt_some {b : Base} {t c r : Int} {rs : List Fact} {i : Nat} {x : Fact} (h : rs[i]? = some x) : decAt b t c r rs i = { decF b t c r x.Time (rs.take i) with run := x.ID } := by unfold decAt; rw [h]
def desF (b : Base) (t c r : Int) : List Dec := (List.range (rnsF b t c r).length).map (decAt b t c r (rnsF b t c r))
theorem desF_len (b : Base) (t c r : Int) : (desF b t c r).length = (rnsF b t c r).length := by unfold desF; rw [List.length_map, List.length_range]
theorem desF_at {b : Base} {t c r : Int} {i : Nat} {x : Fact} (h : (rnsF b t c r)[i]? = some x) : (desF b t c r)[i]? = some { decF b t c r x.Time ((rnsF b t c r).take i) with run := x.ID } := by
  have hi := (List.getElem?_eq_some_iff.1 h).1
  unfold desF
  rw [List.getElem?_map, List.getElem?_range hi]
  exact congrArg some (decAt_some h)
theorem map_range_succ {α : Type} (f : Nat → α) (k : Nat) : (List.range (k + 1)).map f = (List.range k).map f ++ [f k] := by rw [List.range_succ, List.map_append]; rfl
def decNow (b : Base) (t c r time : Int) : Dec := decF b t c r time ((rnsF b t c r).filter fun x => decide (x.Time ≤ time))
theorem BaseC.lit {w : World} {bc : Array Value} {b : Base} (h : BaseC w bc b) : ∃ v0 v1 v2 v3 v4 v5 v6 v7 v8 v9 v10, bc = #[v0, v1, v2, v3, v4, v5, v6, v7, v8, v9, v10] := by
  obtain ⟨v0, v1, v2, v3, v4, v5, v6, v7, v8, v9, v10, e, _⟩ := h
  exact ⟨v0, v1, v2, v3, v4, v5, v6, v7, v8, v9, v10, e⟩
def IdxD (g : DP → Bool) (l : List DP) (i : Int) : Prop := (∃ k x, i = ((k : Nat) : Int) ∧ l[k]? = some x ∧ g x = true ∧ ∀ y ∈ l.take k, g y = false) ∨ (i = -1 ∧ ∀ y ∈ l, g y = false)
theorem noneD_take {p : DP → Bool} {l : List DP} {k : Nat} {x : DP} (h : l[k]? = some x) (hk : ∀ y ∈ l.take k, p y = false) (hx : p x = false) : ∀ y ∈ l.take (k + 1), p y = false := fun y hy => by
  rw [List.take_add_one, h] at hy
  rcases List.mem_append.1 hy with hy | hy
  · exact hk y hy
  · cases List.mem_singleton.1 hy; exact hx
def rtB (a b : Rt) : Bool := (a.n == b.n) && ((a.d == b.d) && true)
theorem rtB_iff (a b : Rt) : rtB a b = true ↔ a = b := by
  obtain ⟨an, ad⟩ := a
  obtain ⟨bn, bd⟩ := b
  unfold rtB
  simp
theorem rtB_self (a : Rt) : rtB a a = true := (rtB_iff a a).2 rfl
def expF (b : Base) (id : Int) : Dec × Bool × Int := match procB b id with
  | none => (dec0, false, 200)
  | some f => match (desF b f.Tool f.Chamber f.Recipe).find? fun D => decide (D.run = id) with
    | none => (dec0, false, 200)
    | some D => (D, decide ((mkF f.Value 1000).2 = 0) && rtB (mkF f.Value 1000).1 D.par, 0)
theorem expF_none {b : Base} {id : Int} (h : procB b id = none) : expF b id = (dec0, false, 200) := by unfold expF; rw [h]
theorem expF_no {b : Base} {id : Int} {f : Fact} {L : List DP} (h : procB b id = some f) (hL : L.map DP.dec = desF b f.Tool f.Chamber f.Recipe) (hn : ∀ y ∈ L, decide (y.dec.run = id) = false) : expF b id = (dec0, false, 200) := by
  have e : ((desF b f.Tool f.Chamber f.Recipe).find? fun D => decide (D.run = id)) = none := by
    rw [← hL]
    refine List.find?_eq_none.2 fun D hD => ?_
    obtain ⟨y, hy, rfl⟩ := List.mem_map.1 hD
    rw [hn y hy]; exact Bool.false_ne_true
  unfold expF; rw [h]; dsimp only; rw [e]
theorem find_map {L : List DP} {k : Nat} {x : DP} {q : Dec → Bool} (hx : L[k]? = some x) (hq : q x.dec = true) (hn : ∀ y ∈ L.take k, q y.dec = false) : (L.map DP.dec).find? q = some x.dec := by
  have hlt := (List.getElem?_eq_some_iff.1 hx).1
  have e : L = L.take k ++ x :: L.drop (k + 1) := by
    have h1 : L.drop k = x :: L.drop (k + 1) := by
      rw [List.drop_eq_getElem_cons hlt, (List.getElem?_eq_some_iff.1 hx).2]
    rw [← h1, List.take_append_drop]
  rw [e, List.map_append, List.map_cons, List.find?_append, List.find?_eq_none.2 (fun D hD => by
    obtain ⟨y, hy, rfl⟩ := List.mem_map.1 hD
    rw [hn y hy]; exact Bool.false_ne_true), List.find?_cons, hq]
  rfl
theorem expF_some {b : Base} {id : Int} {f : Fact} {L : List DP} {k : Nat} {x : DP} (h : procB b id = some f) (hL : L.map DP.dec = desF b f.Tool f.Chamber f.Recipe) (hx : L[k]? = some x) (hr : decide (x.dec.run = id) = true) (hn : ∀ y ∈ L.take k, decide (y.dec.run = id) = false) :
    expF b id = (x.dec, decide ((mkF f.Value 1000).2 = 0) && rtB (mkF f.Value 1000).1 x.dec.par, 0) := by
  have e := find_map (q := fun D => decide (D.run = id)) hx hr hn
  rw [hL] at e
  unfold expF; rw [h]; dsimp only; rw [e]
theorem Sep.join {S0 : Nat → Prop} {w0 w w' : World} {As Bs : List Asr} (h : Sep S0 w0 w As) (k : Sep no w w' Bs) : Sep S0 w0 w' (As ++ Bs) := by
  have h3 := h.add k.upd (A' := aAnd Bs) ⟨fun A hA => (k.each A hA).1, k.apart⟩ (fun i ⟨A, hA, hi⟩ => ((k.each A hA).2 i hi).resolve_left (fun h => h))
  have h4 := Sep.unfold (Bs := As) (As := Bs) (rest := []) h3
  simpa using h4
theorem dp_par {w : World} {B o : Nat} {p : DP} (h : AggAt w B o p.cells) : AggAt w B (o + 1) p.dec.par.cells := fun j v hv => by
  have h2 : p.cells[1 + j]? = some v := by
    match j with
    | 0 => simpa [Rt.cells, DP.cells, DecV.cells, Dec.v] using hv
    | 1 => simpa [Rt.cells, DP.cells, DecV.cells, Dec.v] using hv
    | j + 2 => simp [Rt.cells] at hv
  have := h (1 + j) v h2
  rwa [show o + (1 + j) = o + 1 + j by omega] at this
end Go.Wx
namespace Go.Proofs.YtgffaeachbbjoaaDoor
open Go.Wx Go.RowKit
set_option maxRecDepth 4000 in
theorem Tryd.eqRt (a b : Rt) (w : World) : (Op.equalIn 10000 30 (.agg a.cells) (.agg b.cells)).run Tryd.prog w = .ok (rtB a b) w := by
  have hf : Tryd.prog.underlying 30 = some (.struct (Tryd.prog.fieldsOf 30)) := by rw [Program.fieldsOf, Tryd.underlying30]
  rw [run_equalIn_agg w 9999 30 _ _ hf Tryd.stoodInHeld30]
  have h : (Op.eqFields 9999 a.cells b.cells (Tryd.prog.fieldsOf 30).toList).run Tryd.prog w = .ok (rtB a b) w := by
    rw [Program.fieldsOf, Tryd.underlying30]
    dsimp only
    iterate 2 (refine eqStep (by decide) Tryd.isAgg3 rfl rfl (run_equalIn_int w 9998 _ _ _ _ _ Tryd.underlying3) ?_)
    rfl
  exact h
theorem desD_any (B3 B2 : Nat) (w : World) (ho : Blk w B3 #[vi 0] 34) : RetD Tryd.prog 55 #[.pointer (some ⟨B3, 0, none⟩), .pointer (some ⟨B2, 0, none⟩)] w fun w' => Stp (aBlk B3 #[vi 0] 34) (aBlk B3 #[vi 0] 34) w w' := by
  obtain ⟨w0, rfl⟩ : ∃ w0, w0 = w := ⟨_, rfl⟩
  have hS : Wx.Sep (aBlk B3 #[vi 0] 34).foot w0 w0 [aBlk B3 #[vi 0] 34] := Sep.cons ho (fun _ h => h) (Sep.start _ _) (by simp)
  refine CallsD_start (n := 6) (args := [.pointer (some ⟨B3, 0, none⟩), .pointer (some ⟨B2, 0, none⟩)]) Tryd.func55 rfl rfl rfl ?_
  refine DW.seq (m := 9) (DW.region ?_)
  refine DL.rec (fun a => run_recover) rfl rfl rfl ?_
  refine DL.c (enter_call0 (.cons (.tmp rfl) .nil) (Tryd.en16)) rfl rfl rfl rfl (failed0_any _) ?_
  rintro _ w1 ⟨rfl, uw1⟩
  have zw1 := uw1.size
  replace hS := hS.up uw1
  refine DL.s (SEv.store Tryd.sizeOf34 (.tmp rfl) (.tmp rfl) rfl (hS.blk 0 rfl) (Nat.le_of_ble_eq_true rfl)) rfl rfl rfl ?_
  intro w2 Nw2
  have zw2 := Nw2.size
  replace hS := hS.putB 0 rfl (show Set_ _ w2 _ (#[vi 0]) _ from Nw2)
  change Wx.Sep _ _ _ [_] at hS
  refine DL.nil ?_
  refine KW.then (CW.S ?_)
  refine LW.pp (PEv.load Tryd.isAgg34 (.tmp rfl) ((hS.blk 0 rfl).celln rfl)) ?_
  refine LW.pp (PEv.neq (.tmp rfl) (.const _)) ?_
  refine LW.T ?_
  refine CW.cond_false (.tmp rfl) ?_
  refine CW.skip ?_
  refine KW.end0 rfl ⟨_, rfl, ?_⟩
  exact ⟨hS.fr, hS.get 0 rfl, fun _ h => .inl h⟩
theorem decD_any (B11 B10 : Nat) (w : World) (ho : Blk w B11 #[vi 0] 34) : RetD Tryd.prog 15 #[.pointer (some ⟨B11, 0, none⟩), .pointer (some ⟨B10, 0, none⟩)] w fun w' => Stp (aBlk B11 #[vi 0] 34) (aBlk B11 #[vi 0] 34) w w' := by
  obtain ⟨w0, rfl⟩ : ∃ w0, w0 = w := ⟨_, rfl⟩
  have hS : Wx.Sep (aBlk B11 #[vi 0] 34).foot w0 w0 [aBlk B11 #[vi 0] 34] := Sep.cons ho (fun _ h => h) (Sep.start _ _) (by simp)
  refine CallsD_start (n := 7) (args := [.pointer (some ⟨B11, 0, none⟩), .pointer (some ⟨B10, 0, none⟩)]) Tryd.func15 rfl rfl rfl ?_
  refine DW.seq (m := 9) (DW.region ?_)
  refine DL.rec (fun a => run_recover) rfl rfl rfl ?_
  refine DL.c (enter_call0 (.cons (.tmp rfl) .nil) (Tryd.en16)) rfl rfl rfl rfl (failed0_any _) ?_
  rintro _ w1 ⟨rfl, uw1⟩
  have zw1 := uw1.size
  replace hS := hS.up uw1
  refine DL.s (SEv.store Tryd.sizeOf34 (.tmp rfl) (.tmp rfl) rfl (hS.blk 0 rfl) (Nat.le_of_ble_eq_true rfl)) rfl rfl rfl ?_
  intro w2 Nw2
  have zw2 := Nw2.size
  replace hS := hS.putB 0 rfl (show Set_ _ w2 _ (#[vi 0]) _ from Nw2)
  change Wx.Sep _ _ _ [_] at hS
  refine DL.nil ?_
  refine KW.then (CW.S ?_)
  refine LW.pp (PEv.load Tryd.isAgg34 (.tmp rfl) ((hS.blk 0 rfl).celln rfl)) ?_
  refine LW.pp (PEv.neq (.tmp rfl) (.const _)) ?_
  refine LW.T ?_
  refine CW.cond_false (.tmp rfl) ?_
  refine CW.skip ?_
  refine KW.end0 rfl ⟨_, rfl, ?_⟩
  exact ⟨hS.fr, hS.get 0 rfl, fun _ h => .inl h⟩
theorem decisions_any (bc : Array Go.Value) (b : Base) (t c r : Int) (w : World) (hC : BaseC w bc b) (hlP : b.Processes.length ≤ 400) (hlR : b.Resets.length ≤ 100000) (hlM : b.Measures.length ≤ 100000) (hlT : b.Targets.length ≤ 100000) : Ret Tryd.prog 31 #[.agg (placeC bc t c r)] w fun r0 w' => ∃ v L, r0 = .tuple #[v, vi 0] ∧ L.map DP.dec = desF b t c r ∧ Wx.Sep no w w' [aOwn 33 6 DP.cells v L, aAnd (usesA 3 L)] := by
  obtain ⟨w0, rfl⟩ : ∃ w0, w0 = w := ⟨_, rfl⟩
  have hS := Sep.start no w0
  refine Calls_startD (n := 34) (m := 9) Tryd.func31 rfl rfl rfl ?_
  refine CW.S ?_
  refine LW.r (REv.boxA (.tmp rfl)) rfl rfl rfl rfl ?_
  rintro _ w1 ⟨B1, rfl, NB1⟩
  have eB1 := NB1.at_
  have zB1 := NB1.size
  replace hS := hS.addB NB1
  change Wx.Sep _ _ _ [_] at hS
  refine LW.r (REv.alloc1 Tryd.zeroValue46 rfl) rfl rfl rfl rfl ?_
  rintro _ w2 ⟨B2, rfl, NB2⟩
  have eB2 := NB2.at_
  have zB2 := NB2.size
  replace hS := hS.addB NB2
  change Wx.Sep _ _ _ [_, _] at hS
  refine LW.r (REv.alloc1 Tryd.zeroValue34 rfl) rfl rfl rfl rfl ?_
  rintro _ w3 ⟨B3, rfl, NB3⟩
  have eB3 := NB3.at_
  have zB3 := NB3.size
  replace hS := hS.addB NB3
  change Wx.Sep _ _ _ [_, _, _] at hS
  refine LW.S (CW.region ?_)
  refine LW.pp (PEv.makeFunc (.cons (.tmp rfl) (.cons (.tmp rfl) .nil))) ?_
  refine LW.deferC (.tmp rfl) ?_
  refine LW.S (CW.region ?_)
  refine LW.pp (PEv.loadA Tryd.isAgg50 Tryd.sizeOf50 ((placeC_size hC t c r)) (.tmp rfl) ((hS.blk 0 rfl).agg)) ?_
  refine LW.c (enter_call0 (.cons (.tmp rfl) .nil) (Tryd.en19)) rfl rfl rfl rfl (runs_any bc b t c r _ (hC.up hS.upd) (by omega)) ?_
  rintro v10 w4 ⟨hO10, uw4⟩
  have zw4 := uw4.size
  replace hS := hS.add uw4 (A' := aOwn 25 19 Fact.cells v10 (rnsF b t c r)) (hO10.mono (Nat.zero_le _)) (fun i h => (hO10.base i h))
  change Wx.Sep _ _ _ [_, _, _, _] at hS
  clear hO10
  obtain ⟨rs, ers⟩ : ∃ R, R = rnsF b t c r := ⟨_, rfl⟩
  have hrl := rnsF_len b t c r
  rw [← ers] at hS hrl
  obtain ⟨ad10, cp10, rfl, _⟩ := (hS.own 3 rfl).sl (fun _ => rfl)
  refine LW.A rfl (LW.S (CW.seq ?_))
  replace hS := hS.add (Up.refl _) (A' := aOwn 33 6 DP.cells (.slice none 0 0) ([] : List DP)) (OwnS.nil _ _ _ _ _) (by intro i h; cases h)
  replace hS := hS.add (Up.refl _) (A' := aAnd (usesA 3 [])) ⟨by simp [usesA], by simp [usesA]⟩ (by rintro i ⟨A, hA, _⟩; simp [usesA] at hA)
  change Wx.Sep no _ _ [_, _, _, _, _, _] at hS
  refine CW.region (LW.M rfl ?_)
  refine LW.pp (PEv.lenS Tryd.underlying26 (.tmp rfl)) ?_
  refine LW.pp (PEv.move (.const _)) ?_
  refine LW.T (CW.block ?_)
  refine CW.loopB (σ := Nat × Go.Value × List DP) (fun s w => (s.1 ≤ rs.length) ∧ (s.2.2.map DP.dec = (List.range s.1).map (decAt b t c r rs)) ∧ (Wx.Sep no w0 w [aBlk B1 (placeC bc t c r) 50, aBlk B2 #[s.2.1] 46, aBlk B3 #[vi 0] 34, aOwn 25 19 Fact.cells (.slice ad10 rs.length cp10) rs, aOwn 33 6 DP.cells s.2.1 s.2.2, aAnd (usesA 3 s.2.2)])) (fun s => [(13, .eq (vi (s.1 : Int)))]) ([(1, .eq _), (2, .eq _), (3, .eq _), (4, .eq _), (11, .eq _), (12, .eq _)]) (fun s => rs.length - s.1) (0, .slice none 0 0, []) ?_ ⟨rfl, rfl, rfl, rfl, rfl, rfl, rfl, trivial⟩ ?_
  ·exact ⟨Nat.zero_le _, rfl, hS⟩
  ·rintro ⟨k, v, L⟩ w5 ⟨hk, hL, hS⟩
   dsimp only at hk hL hS
   have hLl : L.length = k := by have h := congrArg List.length hL; simpa using h
   change CW _ _ _ _ _ _ _ ([(13, .eq (vi (k : Int)))] ++ _) _
   refine CW.S ?_
   refine LW.pp (PEv.lss (.tmp rfl) (.tmp rfl)) ?_
   refine LW.S ?_
   refine CW.cond (.tmp rfl) (fun h14 => ?_) (fun h14 => ?_)
   ·first | replace h14 := dT h14 | replace h14 := dF h14 | skip
    refine CW.skip (KW.then (CW.seq (CW.block (CW.seq ?_))))
    have hR : Els w5 ad10 19 Fact.cells rs := (hS.own 3 rfl).els (fun _ => rfl)
    refine CW.region (LW.M rfl ?_)
    obtain ⟨x, hx⟩ := getElem?_of_lt (xs := rs) (i := k) (by omega)
    obtain ⟨Bx, ox, ax, hcx⟩ := hR _ x hx
    refine LW.pp (PEv.indexAddr' Tryd.underlying26 Tryd.sizeOf25 (.tmp rfl) (.tmp rfl) (by omega) ax) ?_
    refine LW.pp (PEv.loadA Tryd.isAgg25 Tryd.sizeOf25 rfl (.tmp rfl) (hcx)) ?_
    refine LW.r (REv.allocA Tryd.zeroValue25) rfl rfl rfl rfl ?_
    rintro _ w6 ⟨B6, rfl, MB6⟩
    refine LW.A rfl ?_
    refine LW.s (SEv.storeA Tryd.sizeOf25 rfl (.tmp rfl) (.tmp rfl) (Fact.one _) MB6.blk rfl) rfl rfl rfl ?_
    intro w7 LB6
    have NB6 := MB6.set LB6
    clear LB6 MB6
    have eB6 := NB6.at_
    have zB6 := NB6.size
    replace hcx := hcx.up NB6.up
    replace hS := hS.addB NB6
    change Wx.Sep _ _ _ [_, _, _, _, _, _, _] at hS
    refine LW.S ?_
    refine CW.free 8 [.eq (.agg (placeC bc t c r)), .eq (.pointer (some ⟨B6, 5, none⟩)), .eq (vi x.Time), .eq (.slice ad10 rs.length cp10), .eq (vi (k : Int)), .eq (.slice ad10 (rs.take k).length cp10), .pred fun v W => ∃ ad cp, v = .agg (DP.cells ⟨decF b t c r x.Time (rs.take k), ad, cp⟩) ∧ OwnS W w7.drew.heap.size 3 1 eInt (.slice ad (decF b t c r x.Time (rs.take k)).uses.length cp) (decF b t c r x.Time (rs.take k)).uses, .pred fun v W => ∃ B, v = .pointer (some ⟨B, 0, none⟩) ∧ w7.drew.heap.size ≤ B ∧ Blk W B (DP.cells ⟨dec0, none, 0⟩) 33] [7, 24] (by kernel_rfl) rfl (by kernel_rfl) (by kernel_rfl) (by kernel_rfl) (by kernel_rfl) (by kernel_rfl) (by kernel_rfl) (by kernel_rfl) ⟨PhU.eq _, PhU.eq _, PhU.eq _, PhU.eq _, PhU.eq _, PhU.eq _, PhU.pred fun _ _ _ h u => let ⟨ad, cp, e, hb⟩ := h; ⟨ad, cp, e, hb.up u⟩, PhU.pred fun _ _ _ h u => let ⟨B, e, hz, hb⟩ := h; ⟨B, e, hz, hb.up u⟩, trivial⟩ ?_ ?_
    ·intro W hU0
     have hU := (Up.drew w7).trans hU0
     have hSW := hS.up hU
     have zU0 := hU0.size
     have hcp := (hSW.own 3 rfl).lcp
     have hEW : Els W ad10 19 Fact.cells rs := (hSW.own 3 rfl).els (fun _ => rfl)
     refine allL.cons ⟨rfl, TU.p (PEv.loadA Tryd.isAgg50 Tryd.sizeOf50 (placeC_size hC t c r) (.tmp rfl) ((hSW.blk 0 rfl).agg)) rfl⟩ ?_
     refine allL.cons ⟨rfl, TU.p (PEv.fieldAddr (off := 5) Tryd.underlying25 rfl rfl Tryd.sizeOf3 rfl (.tmp rfl)) rfl⟩ ?_
     refine allL.cons ⟨rfl, TU.p (PEv.load Tryd.isAgg3 (.tmp rfl) ((hSW.blk 6 rfl).celln rfl)) rfl⟩ ?_
     refine allL.cons ⟨rfl, TU.p (PEv.move (.tmp rfl)) rfl⟩ ?_
     refine allL.cons ⟨rfl, TU.p (PEv.move (.tmp rfl)) rfl⟩ ?_
     refine allL.cons ⟨rfl, TU.p (PEv.vl (PEv.sliceHi Tryd.underlying26 Tryd.sizeOf25 (.tmp rfl) (.tmp rfl) (by omega)) (by rw [List.length_take, Nat.min_eq_left (by omega)])) rfl⟩ ?_
     refine allL.cons ⟨rfl, TU.c (enter_call0 (.cons (.tmp rfl) (.cons (.tmp rfl) (.cons (.tmp rfl) .nil))) (Tryd.en17)) (decide_any bc b t c r x.Time ad10 cp10 (rs.take k) W (hC.up (hS.upd.trans hU)) (Els.take hEW) (by rw [List.length_take]; omega) hlR hlM hlT) (by rintro v W1 ⟨u_, rfl, ho, hu⟩; obtain ⟨adu, cpu, rfl, _⟩ := ho.sl (fun _ => rfl); exact ⟨hu, adu, cpu, rfl, ho.mono zU0⟩)⟩ ?_
     refine allL.cons ⟨rfl, TU.r (REv.allocA Tryd.zeroValue33) (fun v W' h => let ⟨B, e, N⟩ := h; ⟨N.up, B, e, by rw [N.at_]; exact zU0, N.blk⟩)⟩ ?_
     exact allL.nil
    ·intro w8 g hU0 hg
     have hU := (Up.drew w7).trans hU0
     have zw8 := hU.size
     obtain ⟨B7, e7, z7, hB7⟩ : ∃ B, g 7 = .pointer (some ⟨B, 0, none⟩) ∧ w7.drew.heap.size ≤ B ∧ Blk w8 B (DP.cells ⟨dec0, none, 0⟩) 33 := hg 7 _ 7 (by decide) rfl rfl
     obtain ⟨ad7, cp7, e24, ho7⟩ : ∃ ad cp, g 24 = .agg (DP.cells ⟨decF b t c r x.Time (rs.take k), ad, cp⟩) ∧ OwnS w8 w7.drew.heap.size 3 1 eInt (.slice ad (decF b t c r x.Time (rs.take k)).uses.length cp) (decF b t c r x.Time (rs.take k)).uses := hg 6 _ 24 (by decide) rfl rfl
     change LW _ _ _ _ _ _ _ _ ((7, .eq (g 7)) :: (24, .eq (g 24)) :: _) _
     rw [e7, e24]
     clear e7 e24 hg
     replace hS := (hS.up (Up.drew _)).add2 hU0 (A := aBlk B7 (DP.cells ⟨dec0, none, 0⟩) 33) (B := aOwn 3 1 eInt (.slice ad7 (decF b t c r x.Time (rs.take k)).uses.length cp7) (decF b t c r x.Time (rs.take k)).uses) hB7 (ho7.mono (Nat.zero_le _)) (fun i (e : i = B7) => by omega) (fun i h => ho7.base i h) (fun i (e : i = B7) h2 => own_blk ho7 hB7 (by decide) (e ▸ h2))
     clear ho7 hB7
     change Wx.Sep no _ _ [_, _, _, _, _, _, _, _, _] at hS
     refine LW.s (SEv.storeA Tryd.sizeOf33 rfl (.tmp rfl) (.tmp rfl) (DP.one _) (hS.blk 7 rfl) rfl) rfl rfl rfl ?_
     intro w9 Nw9
     have zw9 := Nw9.size
     replace hS := hS.putB 7 rfl (show Set_ _ w9 _ (DP.cells ⟨decF b t c r x.Time (rs.take k), ad7, cp7⟩) _ from Nw9)
     change Wx.Sep _ _ _ [_, _, _, _, _, _, _, _, _] at hS
     refine LW.S (CW.region ?_)
     refine LW.pp (PEv.fieldAddr (off := 1) Tryd.underlying25 rfl rfl Tryd.sizeOf3 rfl (.tmp rfl)) ?_
     refine LW.pp (PEv.load Tryd.isAgg3 (.tmp rfl) ((hS.blk 6 rfl).celln rfl)) ?_
     refine LW.pp (PEv.fieldAddr (off := 0) Tryd.underlying33 rfl rfl Tryd.sizeOf3 rfl (.tmp rfl)) ?_
     refine LW.s (SEv.store Tryd.sizeOf3 (.tmp rfl) (.tmp rfl) rfl (hS.blk 7 rfl) (Nat.le_of_ble_eq_true rfl)) rfl rfl rfl ?_
     intro w10 Nw10
     have zw10 := Nw10.size
     replace hS := hS.putB 7 rfl (show Set_ _ w10 _ (DP.cells ⟨{ decF b t c r x.Time (rs.take k) with run := x.ID }, ad7, cp7⟩) _ from Nw10)
     change Wx.Sep _ _ _ [_, _, _, _, _, _, _, _, _] at hS
     refine LW.T (CW.region ?_)
     refine LW.pp (PEv.load Tryd.isAgg46 (.tmp rfl) ((hS.blk 1 rfl).celln rfl)) ?_
     refine LW.pp (PEv.loadA Tryd.isAgg33 Tryd.sizeOf33 rfl (.tmp rfl) ((hS.blk 7 rfl).agg)) ?_
     refine LW.r (REv.buildSlice (xs := [(⟨{ decF b t c r x.Time (rs.take k) with run := x.ID }, ad7, cp7⟩ : DP)]) (enc := DP.cells) (mk := fun p => .agg p.cells) Tryd.underlying46 Tryd.sizeOf33 Tryd.zeroValue33 rfl (by decide) (fun _ => rfl) (fun _ => rfl) (.cons (.tmp rfl) .nil) rfl) rfl rfl rfl rfl ?_
     rintro _ w11 ⟨B30, cB30, rfl, NB30, yB30, xB30⟩
     have eB30 := NB30.at_
     have zB30 := NB30.size
     replace hS := hS.up NB30.up
     have hE30 := xB30
     refine LW.r (REv.appendF (enc := DP.cells) (bytes := 64) (i := Tryd.t33) Tryd.underlying46 (by kernel_rfl) rfl rfl rfl rfl (by decide) (fun _ => rfl) DP.one (.tmp rfl) (.tmp rfl) (hS.own 4 rfl) (Sl.of_els hE30) (by simp [maxLen]; omega) (by simp; omega)) rfl rfl rfl rfl ?_
     intro v31 w12 Gw12
     have zw12 := Gw12.fr.size
     replace hS := hS.stp 4 rfl Gw12
     change Wx.Sep _ _ _ [_, _, _, _, _, _, _, _, _] at hS
     refine LW.s (SEv.store Tryd.sizeOf46 (.tmp rfl) (.tmp rfl) ((hS.own 4 rfl).oneV (fun _ => rfl)) (hS.blk 1 rfl) (Nat.le_of_ble_eq_true rfl)) rfl rfl rfl ?_
     intro w13 Nw13
     have zw13 := Nw13.size
     replace hS := hS.putB 1 rfl (show Set_ _ w13 _ (#[v31]) _ from Nw13)
     change Wx.Sep _ _ _ [_, _, _, _, _, _, _, _, _] at hS
     refine LW.nil (KW.inBlock (KW.then ?_))
     have h9 := Sep.snocA (Bs := [_, _, _, _, _]) (hS.sub (.cons_cons _ (.cons_cons _ (.cons_cons _ (.cons_cons _ (.cons_cons _ (.cons_cons _ (.cons _ (.cons _ (.cons_cons _ .slnil))))))))))
     replace h9 : Wx.Sep no w0 w13 ([_, _, _, _, _] ++ [aAnd (usesA 3 L ++ [aOwn 3 1 eInt (DP.uv ⟨{ decF b t c r x.Time (rs.take k) with run := x.ID }, ad7, cp7⟩) (DP.dec ⟨{ decF b t c r x.Time (rs.take k) with run := x.ID }, ad7, cp7⟩).uses])]) := h9
     rw [usesA_snoc] at h9
     refine CW.region ?_
     refine LW.pp (PEv.inc (.tmp rfl) (by omega)) ?_
     refine LW.M rfl (LW.nil (KW.round ?_))
     exact ⟨(k + 1, v31, L ++ [(⟨{ decF b t c r x.Time (rs.take k) with run := x.ID }, ad7, cp7⟩ : DP)]), ⟨by show k + 1 ≤ _; omega, by rw [List.map_append, map_range_succ, hL, decAt_some hx]; rfl, h9⟩, ⟨rfl, rfl, rfl, rfl, rfl, rfl, rfl, trivial⟩, by show rs.length - (k + 1) < rs.length - k; omega⟩
   ·first | replace h14 := dT h14 | replace h14 := dF h14 | skip
    refine CW.exit (KW.then_exit (KW.then_exit (KW.block_hit (KW.then (CW.S ?_)))))
    refine LW.pp (PEv.load Tryd.isAgg46 (.tmp rfl) ((hS.blk 1 rfl).celln rfl)) ?_
    refine LW.s (SEv.store Tryd.sizeOf46 (.tmp rfl) (.tmp rfl) ((hS.own 4 rfl).oneV (fun _ => rfl)) (hS.blk 1 rfl) (Nat.le_of_ble_eq_true rfl)) rfl rfl rfl ?_
    intro w14 Nw14
    have zw14 := Nw14.size
    replace hS := hS.putB 1 rfl (show Set_ _ w14 _ (#[v]) _ from Nw14)
    change Wx.Sep _ _ _ [_, _, _, _, _, _] at hS
    refine LW.s (SEv.store Tryd.sizeOf34 (.tmp rfl) (.const _) rfl (hS.blk 2 rfl) (Nat.le_of_ble_eq_true rfl)) rfl rfl rfl ?_
    intro w15 Nw15
    have zw15 := Nw15.size
    replace hS := hS.putB 2 rfl (show Set_ _ w15 _ (#[vi 0]) _ from Nw15)
    change Wx.Sep _ _ _ [_, _, _, _, _, _] at hS
    refine LW.T (CW.ret ?_)
    refine KW.door (f := 55) (args := #[.pointer (some ⟨B3, 0, none⟩), .pointer (some ⟨B2, 0, none⟩)]) (by first | exact (Tryd.en55 _ _) | simp [invoke]) rfl (desD_any B3 B2 _ (hS.blk 2 rfl)) (fun w9 u9 => ?_)
    replace hS := hS.stp 2 rfl u9
    refine KW.retBB rfl rfl rfl Tryd.isAgg46 ((hS.blk 1 rfl).celln rfl) Tryd.isAgg34 ((hS.blk 2 rfl).celln rfl) ⟨_, rfl, ?_⟩
    have hkl : k = rs.length := by omega
    exact ⟨v, L, rfl, by rw [hL, hkl, ers]; rfl, hS.sub (.cons _ (.cons _ (.cons _ (.cons _ (.cons_cons _ (.cons_cons _ .slnil))))))⟩
theorem Decisions_any (bc : Array Go.Value) (b : Base) (t c r : Int) (w : World) (hC : BaseC w bc b) (hlP : b.Processes.length ≤ 400) (hlR : b.Resets.length ≤ 100000) (hlM : b.Measures.length ≤ 100000) (hlT : b.Targets.length ≤ 100000) : Ret Tryd.prog 14 #[.agg bc, vi t, vi c, vi r] w fun r0 w' => ∃ v L, r0 = v ∧ L.map DP.dec = desF b t c r ∧ Wx.Sep no w w' [aOwn 33 6 DP.cells v L, aAnd (usesA 3 L)] := by
  obtain ⟨w0, rfl⟩ : ∃ w0, w0 = w := ⟨_, rfl⟩
  have hS := Sep.start no w0
  obtain ⟨v0, v1, v2, v3, v4, v5, v6, v7, v8, v9, v10, rfl⟩ := hC.lit
  refine Calls_start (n := 21) (m := 9) Tryd.func14 rfl rfl rfl ?_
  refine CW.S ?_
  refine LW.r (REv.boxA (.tmp rfl)) rfl rfl rfl rfl ?_
  rintro _ w1 ⟨B4, rfl, NB4⟩
  have eB4 := NB4.at_
  have zB4 := NB4.size
  replace hS := hS.addB NB4
  change Wx.Sep _ _ _ [_] at hS
  refine LW.C (LW.S (CW.region ?_))
  refine LW.pp (PEv.loadA Tryd.isAgg28 Tryd.sizeOf28 rfl (.tmp rfl) ((hS.blk 0 rfl).agg)) ?_
  refine LW.M rfl (LW.M rfl (LW.M rfl ?_))
  refine LW.pp (PEv.build (cs := placeC #[v0, v1, v2, v3, v4, v5, v6, v7, v8, v9, v10] t c r) Tryd.underlying50 Tryd.zeroValue50 Tryd.places50 (.cons (.tmp rfl) (.cons (.tmp rfl) (.cons (.tmp rfl) (.cons (.tmp rfl) .nil)))) (by kernel_rfl)) ?_
  refine LW.c (enter_call0 (.cons (.tmp rfl) .nil) (Tryd.en31)) rfl rfl rfl rfl (decisions_any #[v0, v1, v2, v3, v4, v5, v6, v7, v8, v9, v10] b t c r _ (hC.up hS.upd) hlP hlR hlM hlT) ?_
  rintro _ w2 ⟨v17, L, rfl, hLm, hT⟩
  replace hS := hS.join hT
  change Wx.Sep no _ _ [_, _, _] at hS
  refine LW.M rfl (LW.pp (PEv.extract (.tmp rfl) rfl) (LW.pp (PEv.extract (.tmp rfl) rfl) (LW.A rfl (LW.A rfl (LW.S (CW.region (LW.M rfl (LW.A rfl (LW.T (CW.ret ?_))))))))))
  refine KW.ret1 rfl rfl ⟨_, rfl, ?_⟩
  exact ⟨v17, L, rfl, hLm, hS.sub (.cons _ (.cons_cons _ (.cons_cons _ .slnil)))⟩
theorem Decide_own (bc : Array Go.Value) (b : Base) (t c r time : Int) (w : World) (hC : BaseC w bc b) (hlP : b.Processes.length ≤ 400) (hlR : b.Resets.length ≤ 100000) (hlM : b.Measures.length ≤ 100000) (hlT : b.Targets.length ≤ 100000) : Ret Tryd.prog 6 #[.agg bc, vi t, vi c, vi r, vi time] w fun r0 w' => ∃ ad cp, r0 = .tuple #[.agg (DP.cells ⟨decNow b t c r time, ad, cp⟩), vi 0] ∧ OwnS w' w.heap.size 3 1 eInt (.slice ad (decNow b t c r time).uses.length cp) (decNow b t c r time).uses ∧ Up w w' := by
  obtain ⟨w0, rfl⟩ : ∃ w0, w0 = w := ⟨_, rfl⟩
  have hS := Sep.start no w0
  obtain ⟨v0, v1, v2, v3, v4, v5, v6, v7, v8, v9, v10, rfl⟩ := hC.lit
  refine Calls_startD (n := 28) (m := 9) Tryd.func6 rfl rfl rfl ?_
  refine CW.S ?_
  refine LW.r (REv.boxA (.tmp rfl)) rfl rfl rfl rfl ?_
  rintro _ w1 ⟨B5, rfl, NB5⟩
  have eB5 := NB5.at_
  have zB5 := NB5.size
  replace hS := hS.addB NB5
  change Wx.Sep _ _ _ [_] at hS
  refine LW.r (REv.allocA Tryd.zeroValue33) rfl rfl rfl rfl ?_
  rintro _ w2 ⟨B10, rfl, NB10⟩
  have eB10 := NB10.at_
  have zB10 := NB10.size
  replace hS := hS.addB NB10
  change Wx.Sep _ _ _ [_, _] at hS
  refine LW.r (REv.alloc1 Tryd.zeroValue34 rfl) rfl rfl rfl rfl ?_
  rintro _ w3 ⟨B11, rfl, NB11⟩
  have eB11 := NB11.at_
  have zB11 := NB11.size
  replace hS := hS.addB NB11
  change Wx.Sep _ _ _ [_, _, _] at hS
  refine LW.S (CW.region ?_)
  refine LW.pp (PEv.makeFunc (.cons (.tmp rfl) (.cons (.tmp rfl) .nil))) ?_
  refine LW.deferC (.tmp rfl) ?_
  refine LW.S (CW.region ?_)
  refine LW.pp (PEv.loadA Tryd.isAgg28 Tryd.sizeOf28 rfl (.tmp rfl) ((hS.blk 0 rfl).agg)) ?_
  refine LW.M rfl (LW.M rfl (LW.M rfl ?_))
  refine LW.pp (PEv.build (cs := placeC #[v0, v1, v2, v3, v4, v5, v6, v7, v8, v9, v10] t c r) Tryd.underlying50 Tryd.zeroValue50 Tryd.places50 (.cons (.tmp rfl) (.cons (.tmp rfl) (.cons (.tmp rfl) (.cons (.tmp rfl) .nil)))) (by kernel_rfl)) ?_
  refine LW.r (REv.allocA Tryd.zeroValue50) rfl rfl rfl rfl ?_
  rintro _ w4 ⟨B12, rfl, MB12⟩
  refine LW.s (SEv.storeA Tryd.sizeOf50 rfl (.tmp rfl) (.tmp rfl) (placeC_one hC t c r) MB12.blk rfl) rfl rfl rfl ?_
  intro w5 LB12
  have NB12 := MB12.set LB12
  clear LB12 MB12
  have eB12 := NB12.at_
  have zB12 := NB12.size
  replace hS := hS.addB NB12
  change Wx.Sep _ _ _ [_, _, _, _] at hS
  refine LW.S ?_
  refine CW.free 9 [.eq (.agg (placeC #[v0, v1, v2, v3, v4, v5, v6, v7, v8, v9, v10] t c r)), .eq (vi time), .eq (.agg (placeC #[v0, v1, v2, v3, v4, v5, v6, v7, v8, v9, v10] t c r)), .pred fun v W => Sl W v 19 Fact.cells (rnsF b t c r), .eq (vi time), .pred fun v W => CondOk Tryd.prog W v (fun x => decide (x.Time ≤ time)), .pred fun v W => CArg Tryd.prog W v (fun x => decide (x.Time ≤ time)), .pred fun v W => Sl W v 19 Fact.cells ((rnsF b t c r).filter fun x => decide (x.Time ≤ time)), .pred fun v W => ∃ ad cp, v = .agg (DP.cells ⟨decNow b t c r time, ad, cp⟩) ∧ OwnS W w5.drew.heap.size 3 1 eInt (.slice ad (decNow b t c r time).uses.length cp) (decNow b t c r time).uses] [27] (by kernel_rfl) rfl (by kernel_rfl) (by kernel_rfl) (by kernel_rfl) (by kernel_rfl) (by kernel_rfl) (by kernel_rfl) (by kernel_rfl) ⟨PhU.eq _, PhU.eq _, PhU.eq _, PhU.pred fun _ _ _ h u => Sl.up h u, PhU.eq _, PhU.pred fun _ _ _ h u => h.up u, PhU.pred fun _ _ _ h u => h.up u, PhU.pred fun _ _ _ h u => Sl.up h u, PhU.pred fun _ _ _ h u => let ⟨ad, cp, e, hb⟩ := h; ⟨ad, cp, e, hb.up u⟩, trivial⟩ ?_ ?_
  ·intro W hU0
   have hU := (Up.drew w5).trans hU0
   have hSW := hS.up hU
   have zU0 := hU0.size
   have hrl := rnsF_len b t c r
   refine allL.cons ⟨rfl, TU.p (PEv.loadA Tryd.isAgg50 Tryd.sizeOf50 rfl (.tmp rfl) ((hSW.blk 3 rfl).agg)) rfl⟩ ?_
   refine allL.cons ⟨rfl, TU.p (PEv.move (.tmp rfl)) rfl⟩ ?_
   refine allL.cons ⟨rfl, TU.p (PEv.loadA Tryd.isAgg50 Tryd.sizeOf50 rfl (.tmp rfl) ((hSW.blk 3 rfl).agg)) rfl⟩ ?_
   refine allL.cons ⟨rfl, TU.c (enter_call0 (.cons (.tmp rfl) .nil) (Tryd.en19)) (runs_any #[v0, v1, v2, v3, v4, v5, v6, v7, v8, v9, v10] b t c r W (hC.up (hS.upd.trans hU)) (by omega)) (by rintro v W1 ⟨h, u⟩; exact ⟨u, h.sl (fun _ => rfl)⟩)⟩ ?_
   refine allL.cons ⟨rfl, TU.p (PEv.move (.tmp rfl)) rfl⟩ ?_
   refine allL.cons ⟨rfl, TU.c (enter_call0 (.cons (.tmp rfl) .nil) (Tryd.en20)) (until_any time W) (by rintro _ W1 ⟨h, u⟩; exact ⟨u, h⟩)⟩ ?_
   refine allL.cons ⟨rfl, TU.open (d := 24) rfl (by rintro _ ⟨cf, lb, rfl, he, hp⟩; exact TU.r (REv.buildSlice (xs := [(⟨cf, lb, fun x => decide (x.Time ≤ time)⟩ : Cnd)]) (enc := Cnd.cells) (mk := Cnd.v) Tryd.underlying79 Tryd.sizeOf54 Tryd.zeroValue54 rfl (by decide) (fun _ => rfl) (fun _ => rfl) (.cons (.tmp rfl) .nil) rfl) (by rintro _ W1 ⟨B, c_, rfl, N, y, x_⟩; exact ⟨N.up, _, _, _, rfl, x_, CndsOk.cons (⟨cf, lb, rfl, he, fun W2 u x => hp W2 (N.up.trans u) x⟩ : CondOk Tryd.prog W1 (Cnd.v ⟨cf, lb, fun x => decide (x.Time ≤ time)⟩) (fun x => decide (x.Time ≤ time))) CndsOk.nil, by simp, fun x => by simp [allQ]⟩))⟩ ?_
   refine allL.cons ⟨rfl, TU.open (d := 22) rfl (by rintro _ ⟨adr, cpr, rfl, hEr⟩; exact TU.open (d := 25) rfl (by rintro _ ⟨ad, cp_, qs, rfl, hE, hq, hlq, hpq⟩; exact TU.c (enter_call0 (.cons (.tmp rfl) (.cons (.tmp rfl) .nil)) (Tryd.en18)) (all_any adr cpr (rnsF b t c r) ad cp_ qs W hEr (by omega) hE hlq hq) (by rintro v W1 ⟨h, u⟩; rw [filter_eq hpq] at h; exact ⟨u, h.sl (fun _ => rfl)⟩)))⟩ ?_
   refine allL.cons ⟨rfl, TU.open (d := 26) rfl (by rintro _ ⟨ada, cpa, rfl, hEa⟩; exact TU.c (enter_call0 (.cons (.tmp rfl) (.cons (.tmp rfl) (.cons (.tmp rfl) .nil))) (Tryd.en17)) (decide_any #[v0, v1, v2, v3, v4, v5, v6, v7, v8, v9, v10] b t c r time ada cpa ((rnsF b t c r).filter fun x => decide (x.Time ≤ time)) W (hC.up (hS.upd.trans hU)) hEa (Nat.le_trans (List.length_filter_le _ _) (by omega)) hlR hlM hlT) (by rintro v W1 ⟨u_, rfl, ho, hu⟩; obtain ⟨adu, cpu, rfl, _⟩ := ho.sl (fun _ => rfl); exact ⟨hu, adu, cpu, rfl, ho.mono zU0⟩))⟩ ?_
   exact allL.nil
  ·intro w6 g hU0 hg
   have hU := (Up.drew w5).trans hU0
   have zw6 := hU.size
   obtain ⟨ad7, cp7, e27, ho7⟩ : ∃ ad cp, g 27 = .agg (DP.cells ⟨decNow b t c r time, ad, cp⟩) ∧ OwnS w6 w5.drew.heap.size 3 1 eInt (.slice ad (decNow b t c r time).uses.length cp) (decNow b t c r time).uses := hg 8 _ 27 (by decide) rfl rfl
   change LW _ _ _ _ _ _ _ _ ((27, .eq (g 27)) :: _) _
   rw [e27]
   clear e27 hg
   replace hS := (hS.up (Up.drew _)).add hU0 (A' := aOwn 3 1 eInt (.slice ad7 (decNow b t c r time).uses.length cp7) (decNow b t c r time).uses) (ho7.mono (Nat.zero_le _)) (fun i h => ho7.base i h)
   clear ho7
   change Wx.Sep no _ _ [_, _, _, _, _] at hS
   refine LW.s (SEv.storeA Tryd.sizeOf33 rfl (.tmp rfl) (.tmp rfl) (DP.one _) (hS.blk 1 rfl) rfl) rfl rfl rfl ?_
   intro w7 Nw7
   have zw7 := Nw7.size
   replace hS := hS.putB 1 rfl (show Set_ _ w7 _ (DP.cells ⟨decNow b t c r time, ad7, cp7⟩) _ from Nw7)
   change Wx.Sep _ _ _ [_, _, _, _, _] at hS
   refine LW.s (SEv.store Tryd.sizeOf34 (.tmp rfl) (.const _) rfl (hS.blk 2 rfl) (Nat.le_of_ble_eq_true rfl)) rfl rfl rfl ?_
   intro w8 Nw8
   have zw8 := Nw8.size
   replace hS := hS.putB 2 rfl (show Set_ _ w8 _ (#[vi 0]) _ from Nw8)
   change Wx.Sep _ _ _ [_, _, _, _, _] at hS
   refine LW.T (CW.ret ?_)
   refine KW.door (f := 15) (args := #[.pointer (some ⟨B11, 0, none⟩), .pointer (some ⟨B10, 0, none⟩)]) (by first | exact (Tryd.en15 _ _) | simp [invoke]) rfl (decD_any B11 B10 _ (hS.blk 2 rfl)) (fun w9 u9 => ?_)
   replace hS := hS.stp 2 rfl u9
   refine KW.retAB rfl rfl rfl Tryd.isAgg33 Tryd.sizeOf33 rfl (hS.blk 1 rfl).agg Tryd.isAgg34 ((hS.blk 2 rfl).celln rfl) ⟨_, rfl, ?_⟩
   exact ⟨ad7, cp7, rfl, (hS.own 4 rfl).rebase (fun i hi => (hS.foot 4 rfl i hi).resolve_left (fun h => h)), hS.upd⟩
theorem Decide_any (bc : Array Go.Value) (b : Base) (t c r time : Int) (w : World) (hC : BaseC w bc b) (hlP : b.Processes.length ≤ 400) (hlR : b.Resets.length ≤ 100000) (hlM : b.Measures.length ≤ 100000) (hlT : b.Targets.length ≤ 100000) : Ret Tryd.prog 6 #[.agg bc, vi t, vi c, vi r, vi time] w fun r0 w' => ∃ v, r0 = .tuple #[v, vi 0] ∧ DecE w' v (decNow b t c r time) ∧ Up w w' :=
  (Decide_own bc b t c r time w hC hlP hlR hlM hlT).mono fun _ _ ⟨ad, cp, e, ho, u⟩ => ⟨_, e, ⟨ad, cp, rfl, ho.sl (fun _ => rfl)⟩, u⟩
end Go.Proofs.YtgffaeachbbjoaaDoor
end
section
namespace Go.Wx
open Go.RowKit
section
variable {R : Option Nat} {m : Nat} {P : Program} {n : Nat} {ds : List Deferred} {Q : Exit → Go.Act → World → Prop} {l : Env} {w : World}
def TW (P : Program) (n : Nat) (ds : List Deferred) (ops : Array Oper) (env : Env) (W : World) (o : Oper) (v : Value) : Prop := ∀ a, Ag n ds env a W → if Region.wanted o (yielded ops a.tmps) = true then OpY P o a W (fun u W' => Up W W' ∧ u = v) else v = undef
section
variable {ops : Array Oper} {env : Env} {W : World} {o : Oper} {v : Value}
theorem TW.p (h : PEv P n ds env W o v) (hg : o.guard = none) : TW P n ds ops env W o v := fun a ha => by
  rw [if_pos (by simp [Region.wanted, hg])]
  exact .inl ⟨v, W, h a W ha (Up.refl W), Up.refl W, rfl⟩
theorem TW.yp {j dj : Nat} {oj : Oper} {want : Bool} (h : PEv P n ds env W o v) (hg : o.guard = some (j, want)) (hj : ops[j]? = some oj) (hdj : oj.dst = some dj) (hdn : Nat.ble (dj + 1) n = true) (hb : lk env dj = some (.eq (.bool want))) : TW P n ds ops env W o v := fun a ha => by
  have hw := wanted_of (o := o) (ops := ops) (a := a) hg hj hdj (by rw [ha.size]; exact Nat.le_of_ble_eq_true hdn) (ha.val _ _ hb)
  have e : (want == want) = true := by cases want <;> rfl
  rw [hw, e, if_pos rfl]
  exact .inl ⟨v, W, h a W ha (Up.refl W), Up.refl W, rfl⟩
theorem TW.no {j dj : Nat} {oj : Oper} {want b : Bool} (hg : o.guard = some (j, want)) (hj : ops[j]? = some oj) (hdj : oj.dst = some dj) (hdn : Nat.ble (dj + 1) n = true) (hb : lk env dj = some (.eq (.bool b))) (hne : (b == want) = false) : TW P n ds ops env W o undef := fun a ha => by
  have hw := wanted_of (o := o) (ops := ops) (a := a) hg hj hdj (by rw [ha.size]; exact Nat.le_of_ble_eq_true hdn) (ha.val _ _ hb)
  rw [hw, hne, if_neg Bool.false_ne_true]
end
theorem CW.freeS {id : Nat} {opsL : List Oper} (k h : Nat) (vs : List Value) (keep : List Nat) (S : Nat → Prop) (PreH PostH : World → Prop) (hm : P.follows .mixedOrders = true) (hl : noPred l = true)
    (hA : aheadOK opsL.toArray = true) (hC : (Nat.beq k opsL.toArray.size || closOK opsL.toArray k) = true) (hF : farOK opsL.toArray k = true) (hks : Nat.ble k opsL.toArray.size = true) (hD : dstOK' n opsL.toArray 0 k = true) (hTl : tailOK opsL.toArray k = true)
    (hfree : freeOK l (opsL.take k) = true) (hhk : Nat.ble (h + 1) k = true) (hPr : PreH w.drew) (hRU : ∀ W W', PreH W → Up W W' → PreH W') (hPU : ∀ W W', PostH W → Up W W' → PostH W')
    (hop : ∀ W, Fr S w.drew W → allL (fun i o => (i ≠ h → TW P n ds opsL.toArray (knp opsL.toArray (fun i => .eq (vs.getD i undef)) 0 o ++ l) W o (vs.getD i undef)) ∧
      (i = h → (PreH W → SEv P n ds (knp opsL.toArray (fun i => .eq (vs.getD i undef)) 0 o ++ l) W o (fun W' => Fr S W W' ∧ PostH W')) ∧ o.guard = none ∧ o.dst = none)) 0 (opsL.take k))
    (hend : ∀ W, Fr S w.drew W → PostH W → LW R m P n ds opsL.toArray Q (opsL.drop k) (keep.map (fun i => (((opsL[i]?).bind (·.dst)).getD 0, .eq (vs.getD i undef))) ++ l) W)
    (hkp : (keep.all fun i => Nat.ble (i + 1) k && ((opsL[i]?).bind (·.dst)).isSome) = true) :
    CW R m P n ds (.region id opsL.toArray true) Q l w := by
  have hks' : k ≤ opsL.length := by have := Nat.le_of_ble_eq_true hks; simp at this; omega
  have sub : ∀ j o, j < k → opsL.toArray[j]? = some o → (opsL.take k)[j]? = some o := fun j o hjk ho => by
    rw [List.getElem?_take_of_lt hjk]; simpa using ho
  have hbd : ∀ i ph, lk l i = some ph → ∀ (j : Nat) (o : Oper), 0 ≤ j → j < k → opsL.toArray[j]? = some o → o.dst ≠ some i := fun i ph hi j o _ hjk ho => freeOK_at hfree hi (List.mem_of_getElem? (sub j o hjk ho))
  refine CW.draws_up hm hl fun fuel listed a hf hu ha => ?_
  refine AWF.gen (k := k) (fun i => .eq (vs.getD i undef)) (Fr S) (fun L _ W => ((L h = true → PostH W) ∧ (L h = false → PreH W)) ∧ Fr S w.drew W) (f0 := fun t => a.tmps.getD t undef) (Fr.refl S) (fun _ _ _ => Fr.trans) (fun i v w w' h u => h) hA hC hF hks (by simp) hD hl hbd ?_ ⟨⟨fun hh => by simp at hh, fun _ => hPr⟩, Fr.refl _ _⟩ ?_ fuel listed a hf hu ha (fun _ => rfl)
  · intro i o _ hi hio L f W hU0 hDn hLi hed hInv a ha hsl
    have hU := hInv.2
    have h3 := (hop W hU).at (sub i o hi hio)
    rw [Nat.zero_add] at h3
    by_cases ih : i = h
    · obtain ⟨h4, hg, hd⟩ := h3.2 ih
      rw [if_pos (by simp [Region.wanted, hg])]
      obtain ⟨W', hr, hf', hp⟩ := h4 (hInv.1.2 (by rw [← ih]; exact hLi)) a ha
      exact .inr ⟨W', hr, hf', (fun d e => nomatch (hd.symm.trans e)), ⟨fun _ => hp, fun hh => by rw [ih] at hh; simp [setL] at hh⟩, hU.trans hf'⟩
    · have h4 := h3.1 ih a ha
      have done : ∀ v W', Up W W' ∧ v = vs.getD i undef → Fr S W W' ∧ (∀ d, o.dst = some d → (Ph.eq (vs.getD i undef)).holds v W') ∧ ((setL L i h = true → PostH W') ∧ (setL L i h = false → PreH W')) ∧ Fr S w.drew W' := fun v W' hv =>
        ⟨hv.1.fr S, fun _ _ => hv.2, ⟨fun hh => hPU W W' (hInv.1.1 (by simpa [setL, Ne.symm ih] using hh)) hv.1, fun hh => hRU W W' (hInv.1.2 (by simpa [setL, Ne.symm ih] using hh)) hv.1⟩, hU.trans (hv.1.fr S)⟩
      split at h4
      · rename_i hw
        rw [if_pos hw]
        rcases h4 with ⟨v, W', hr, hp⟩ | ⟨fn, args, w1, hr, hc⟩
        · exact .inl (.inl ⟨v, W', hr, done v W' hp⟩)
        · exact .inl (.inr ⟨fn, args, w1, hr, hc.mono done⟩)
      · rename_i hw
        rw [if_neg hw]
        exact done undef W ⟨Up.refl W, h4.symm⟩
  · intro f W hR hInv fuel' listed' a' hf' hu' ha' hsl'
    refine tail_order hTl hA (opsL.toArray.size - k) k fuel' listed' a' W rfl (by simp; omega) (Nat.le_refl _) hf' hu' ?_
    refine hend W hInv.2 (hInv.1.1 (decide_eq_true (Nat.le_of_ble_eq_true hhk))) a' ⟨ha'.defers, ha'.size, fun t q ht => ?_⟩
    rcases lk_append ht with h1 | h1
    · obtain ⟨i, hi, he⟩ := List.mem_map.1 (lk_mem h1)
      cases he
      have hk1 := List.all_eq_true.1 hkp i hi
      rw [Bool.and_eq_true] at hk1
      have hik : i < k := Nat.le_of_ble_eq_true hk1.1
      cases ho : opsL[i]? with
      | none => rw [ho] at hk1; cases hk1.2
      | some o =>
        rw [ho] at hk1
        cases hd : o.dst with
        | none => simp [hd] at hk1
        | some d =>
          have ho' : opsL.toArray[i]? = some o := by simpa using ho
          have hmem : (d, Ph.eq (vs.getD i undef)) ∈ allP opsL.toArray (fun i => .eq (vs.getD i undef)) 0 k := by
            unfold allP
            rw [List.mem_filterMap]
            exact ⟨i, List.mem_range.2 hik, by rw [if_pos (by simp), ho']; simp [hd]⟩
          obtain ⟨q', hq⟩ := lk_of_mem hmem
          obtain ⟨j, p, _, hjk, hp, hpd, e⟩ := allP_at hq
          have : j = i := by
            by_cases ee : j = i
            · exact ee
            · exact absurd hpd ((dstOK'_at hD (Nat.zero_le _) hik ho' hd).2 j p (Nat.zero_le _) hjk ee hp)
          subst this
          have h5 := ha'.val d q' (lk_left hq)
          rw [e] at h5
          have e6 : (((some o).bind fun x => x.dst).getD 0) = d := by simp [hd]
          rw [e6]
          exact h5
    · refine ha'.val t q ?_
      rw [lk_right]
      · exact h1
      · cases hq : lk (allP opsL.toArray (fun i => .eq (vs.getD i undef)) 0 k) t with
        | none => rfl
        | some q' =>
          obtain ⟨j, p, _, hjk, hp, hpd, _⟩ := allP_at hq
          exact absurd hpd (hbd t q h1 j p (Nat.zero_le _) hjk hp)
end
end Go.Wx
end
section
namespace Go.Wx
theorem mkFno {n d : Int} (h : fitsF n d = false) : mkF n d = (rt0, 30) := if_neg (by rw [h]; exact Bool.false_ne_true)
theorem procB_mem {b : Base} {id : Int} {f : Fact} (h : procB b id = some f) : f ∈ b.Processes := List.mem_of_find?_eq_some h
end Go.Wx
namespace Go.Proofs.YtgffaeachbbjoaaDoor
open Go.Wx Go.RowKit
theorem indexD_any (cf : Nat) (lb : Array Go.Value) (p : DP → Bool) (hen : ∀ args w, (callFunc cf args).run Tryd.prog w = .ok (.enter cf args) w) (ad : Option Addr) (cp : Nat) (l : List DP) (w : World) (hE0 : Els w ad 6 DP.cells l) (hl : l.length ≤ 100000) (hp : ∀ W, Up w W → ∀ x, Ret Tryd.prog cf (#[.agg (DP.cells x)] ++ lb) W fun r W' => r = .bool (p x) ∧ Up W W') : Ret Tryd.prog 28 #[.slice ad l.length cp, .func (.func cf) #[] lb] w fun r w' => ∃ i, r = vi i ∧ IdxD p l i ∧ Up w w' := by
  have hW := Up.refl w
  obtain ⟨w0, rfl⟩ : ∃ w0, w0 = w := ⟨_, rfl⟩
  refine Calls_start (n := 19) (m := 9) Tryd.func28 rfl rfl rfl ?_
  refine CW.S (LW.C (LW.S (CW.S (LW.M rfl ?_))))
  refine LW.pp (PEv.lenS Tryd.underlying46 (.tmp rfl)) ?_
  refine LW.pp (PEv.move (.const _)) ?_
  refine LW.T (CW.block ?_)
  refine CW.loopB (σ := Nat) (fun s w => (s ≤ l.length) ∧ (∀ y ∈ l.take s, p y = false) ∧ (Up w0 w)) (fun s => [(8, .eq (vi (s : Int)))]) ([(0, .eq _), (1, .eq _), (7, .eq _)]) (fun s => l.length - s) 0 ?_ ⟨rfl, rfl, rfl, rfl, trivial⟩ ?_
  ·exact ⟨Nat.zero_le _, by simp, hW⟩
  ·rintro k w1 ⟨hk, hn, hW⟩
   refine CW.S ?_
   refine LW.pp (PEv.lss (.tmp rfl) (.tmp rfl)) ?_
   refine LW.S ?_
   refine CW.cond (.tmp rfl) (fun h9 => ?_) (fun h9 => ?_)
   ·first | replace h9 := dT h9 | replace h9 := dF h9 | skip
    refine CW.skip (KW.then (CW.seq (CW.block (CW.S (LW.M rfl (LW.A rfl (LW.S ?_)))))))
    have hE := Els.up hE0 hW
    refine CW.region (LW.M rfl (LW.M rfl (LW.M rfl ?_)))
    obtain ⟨x, hx⟩ := getElem?_of_lt (xs := l) (i := k) (by omega)
    obtain ⟨Bx, ox, ax, hcx⟩ := hE _ x hx
    refine LW.pp (PEv.indexAddr' Tryd.underlying46 Tryd.sizeOf33 (.tmp rfl) (.tmp rfl) (by omega) ax) ?_
    refine LW.pp (PEv.loadA Tryd.isAgg33 Tryd.sizeOf33 rfl (.tmp rfl) (hcx)) ?_
    refine LW.c (enter_call (.tmp rfl) (.cons (.tmp rfl) .nil) (hen)) rfl rfl rfl rfl (hp _ hW x) ?_
    rintro _ w2 ⟨rfl, uw2⟩
    have zw2 := uw2.size
    replace hW := hW.up uw2
    replace hcx := hcx.up uw2
    refine LW.T ?_
    refine CW.cond (.tmp rfl) (fun h16 => ?_) (fun h16 => ?_)
    ·first | replace h16 := dT h16 | replace h16 := dF h16 | skip
     refine CW.S (LW.M rfl (LW.A rfl (LW.T (CW.ret (KW.block_ret (KW.then_ret (KW.then_ret (KW.block_ret (KW.then_ret ?_)))))))))
     refine KW.ret1 rfl rfl ⟨_, rfl, ?_⟩
     first | exact ⟨_, rfl, .inl ⟨k, x, rfl, hx, by simpa using h16, hn⟩, hW⟩ | exact ⟨-1, rfl, .inr ⟨rfl, by rw [show k = l.length by omega, List.take_length] at hn; exact hn⟩, hW⟩
    ·first | replace h16 := dT h16 | replace h16 := dF h16 | skip
     refine CW.skip (KW.inBlock (KW.then (CW.region ?_)))
     refine LW.pp (PEv.inc (.tmp rfl) (by omega)) ?_
     refine LW.M rfl (LW.nil (KW.round ?_))
     exact ⟨k + 1, ⟨by omega, noneD_take hx hn (by simpa using h16), hW⟩, ⟨rfl, rfl, rfl, rfl, trivial⟩, by first | omega | (dsimp only; omega)⟩
   ·first | replace h9 := dT h9 | replace h9 := dF h9 | skip
    refine CW.exit (KW.then_exit (KW.then_exit (KW.block_hit (KW.then (CW.S (LW.C (LW.T (CW.ret ?_))))))))
    refine KW.ret1 rfl rfl ⟨_, rfl, ?_⟩
    first | exact ⟨_, rfl, .inl ⟨k, x, rfl, hx, by simpa using h16, hn⟩, hW⟩ | exact ⟨-1, rfl, .inr ⟨rfl, by rw [show k = l.length by omega, List.take_length] at hn; exact hn⟩, hW⟩
theorem expl1_any (x : DP) (id : Int) (B : Nat) (w : World) (hB : Blk w B #[vi id] 3) : Ret Tryd.prog 29 #[.agg (DP.cells x), .pointer (some ⟨B, 0, none⟩)] w fun r w' => r = .bool (decide (x.dec.run = id)) ∧ Up w w' := by
  have hW := Up.refl w
  refine Calls_start (n := 8) (m := 9) Tryd.func29 rfl rfl rfl ?_
  refine CW.S ?_
  refine LW.r (REv.boxA (.tmp rfl)) rfl rfl rfl rfl ?_
  rintro _ w1 ⟨B2, rfl, NB2⟩
  have eB2 := NB2.at_
  have zB2 := NB2.size
  replace hB := hB.up NB2.up
  replace hW := hW.up NB2.up
  have hB2 := NB2.blk
  refine LW.C (LW.S (CW.region ?_))
  refine LW.pp (PEv.fieldAddr (off := 0) Tryd.underlying33 rfl rfl Tryd.sizeOf3 rfl (.tmp rfl)) ?_
  refine LW.pp (PEv.load Tryd.isAgg3 (.tmp rfl) (hB2.celln rfl)) ?_
  refine LW.pp (PEv.load Tryd.isAgg3 (.tmp rfl) (hB.celln rfl)) ?_
  refine LW.pp (PEv.eql (.tmp rfl) (.tmp rfl)) ?_
  refine LW.A rfl (LW.T (CW.ret ?_))
  refine KW.ret1 rfl rfl ⟨_, rfl, ?_⟩
  exact ⟨rfl, hW⟩
theorem Explain_any (bc : Array Go.Value) (b : Base) (id : Int) (w : World) (hC : BaseC w bc b) (hlP : b.Processes.length ≤ 400) (hlR : b.Resets.length ≤ 100000) (hlM : b.Measures.length ≤ 100000) (hlT : b.Targets.length ≤ 100000) (hV : ∀ f ∈ b.Processes, inI f.Value) : Ret Tryd.prog 12 #[.agg bc, vi id] w fun r0 w' => ∃ v, r0 = .tuple #[v, .bool (expF b id).2.1, vi (expF b id).2.2] ∧ DecE w' v (expF b id).1 ∧ Up w w' := by
  obtain ⟨w0, rfl⟩ : ∃ w0, w0 = w := ⟨_, rfl⟩
  have hS := Sep.start no w0
  refine Calls_start (n := 57) (m := 9) Tryd.func12 rfl rfl rfl ?_
  refine CW.S ?_
  refine LW.r (REv.boxA (.tmp rfl)) rfl rfl rfl rfl ?_
  rintro _ w1 ⟨B2, rfl, NB2⟩
  have eB2 := NB2.at_
  have zB2 := NB2.size
  replace hS := hS.addB NB2
  change Wx.Sep _ _ _ [_] at hS
  refine LW.r (REv.box1 (.tmp rfl) rfl) rfl rfl rfl rfl ?_
  rintro _ w2 ⟨B3, rfl, NB3⟩
  have eB3 := NB3.at_
  have zB3 := NB3.size
  replace hS := hS.addB NB3
  change Wx.Sep _ _ _ [_, _] at hS
  refine LW.r (REv.allocA Tryd.zeroValue33) rfl rfl rfl rfl ?_
  rintro _ w3 ⟨B4, rfl, NB4⟩
  have eB4 := NB4.at_
  have zB4 := NB4.size
  replace hS := hS.addB NB4
  change Wx.Sep _ _ _ [_, _, _] at hS
  refine LW.C (LW.C (LW.S ?_))
  cases hq1 : procB b id with
  | none =>
   refine CW.region ?_
   refine LW.pp (PEv.loadA Tryd.isAgg28 Tryd.sizeOf28 (hC.size) (.tmp rfl) ((hS.blk 0 rfl).agg)) ?_
   refine LW.pp (PEv.load Tryd.isAgg3 (.tmp rfl) ((hS.blk 1 rfl).celln rfl)) ?_
   refine LW.c (enter_call0 (.cons (.tmp rfl) (.cons (.tmp rfl) .nil)) (Tryd.en27)) rfl rfl rfl rfl (Process_any bc b id _ (hC.up hS.upd) (by omega)) ?_
   rintro _ w4 ⟨rfl, uw4⟩
   have zw4 := uw4.size
   replace hS := hS.up uw4
   rw [hq1]
   refine LW.M rfl (LW.pp (PEv.extract (.tmp rfl) rfl) (LW.pp (PEv.extract (.tmp rfl) rfl) ?_))
   refine LW.r (REv.allocA Tryd.zeroValue25) rfl rfl rfl rfl ?_
   rintro _ w5 ⟨B7, rfl, MB7⟩
   refine LW.s (SEv.storeA Tryd.sizeOf25 rfl (.tmp rfl) (.tmp rfl) (Fact.one _) MB7.blk rfl) rfl rfl rfl ?_
   intro w6 LB7
   have NB7 := MB7.set LB7
   clear LB7 MB7
   have eB7 := NB7.at_
   have zB7 := NB7.size
   replace hS := hS.addB NB7
   change Wx.Sep _ _ _ [_, _, _, _] at hS
   refine LW.A rfl (LW.S (CW.S (LW.M rfl ?_)))
   refine LW.pp (PEv.not (.tmp rfl)) ?_
   refine LW.T ?_
   refine CW.cond_true (.tmp rfl) ?_
   refine CW.S ?_
   refine LW.pp (PEv.build (cs := DP.cells ⟨dec0, none, 0⟩) Tryd.underlying33 Tryd.zeroValue33 Tryd.places33 .nil (by kernel_rfl)) ?_
   refine LW.s (SEv.storeA Tryd.sizeOf33 rfl (.tmp rfl) (.tmp rfl) (DP.one _) (hS.blk 2 rfl) rfl) rfl rfl rfl ?_
   intro w7 Nw7
   have zw7 := Nw7.size
   replace hS := hS.putB 2 rfl (show Set_ _ w7 _ (DP.cells ⟨dec0, none, 0⟩) _ from Nw7)
   change Wx.Sep _ _ _ [_, _, _, _] at hS
   refine LW.C (LW.C (LW.T (CW.ret (KW.then_ret ?_))))
   refine KW.retATT rfl rfl rfl rfl Tryd.isAgg33 Tryd.sizeOf33 rfl (hS.blk 2 rfl).agg ⟨_, rfl, ?_⟩
   rw [expF_none hq1]
   exact ⟨_, rfl, ⟨none, 0, rfl, Sl.nil _ _ _⟩, hS.upd⟩
  | some f =>
   refine CW.region ?_
   refine LW.pp (PEv.loadA Tryd.isAgg28 Tryd.sizeOf28 (hC.size) (.tmp rfl) ((hS.blk 0 rfl).agg)) ?_
   refine LW.pp (PEv.load Tryd.isAgg3 (.tmp rfl) ((hS.blk 1 rfl).celln rfl)) ?_
   refine LW.c (enter_call0 (.cons (.tmp rfl) (.cons (.tmp rfl) .nil)) (Tryd.en27)) rfl rfl rfl rfl (Process_any bc b id _ (hC.up hS.upd) (by omega)) ?_
   rintro _ w8 ⟨rfl, uw8⟩
   have zw8 := uw8.size
   replace hS := hS.up uw8
   rw [hq1]
   refine LW.M rfl (LW.pp (PEv.extract (.tmp rfl) rfl) (LW.pp (PEv.extract (.tmp rfl) rfl) ?_))
   refine LW.r (REv.allocA Tryd.zeroValue25) rfl rfl rfl rfl ?_
   rintro _ w9 ⟨B7, rfl, MB7⟩
   refine LW.s (SEv.storeA Tryd.sizeOf25 rfl (.tmp rfl) (.tmp rfl) (Fact.one _) MB7.blk rfl) rfl rfl rfl ?_
   intro w10 LB7
   have NB7 := MB7.set LB7
   clear LB7 MB7
   have eB7 := NB7.at_
   have zB7 := NB7.size
   replace hS := hS.addB NB7
   change Wx.Sep _ _ _ [_, _, _, _] at hS
   refine LW.A rfl (LW.S (CW.S (LW.M rfl ?_)))
   refine LW.pp (PEv.not (.tmp rfl)) ?_
   refine LW.T ?_
   refine CW.cond_false (.tmp rfl) ?_
   refine CW.skip (KW.then (CW.S ?_))
   refine LW.pp (PEv.loadA Tryd.isAgg28 Tryd.sizeOf28 (hC.size) (.tmp rfl) ((hS.blk 0 rfl).agg)) ?_
   refine LW.pp (PEv.fieldAddr (off := 11) Tryd.underlying25 rfl rfl Tryd.sizeOf3 rfl (.tmp rfl)) ?_
   refine LW.pp (PEv.load Tryd.isAgg3 (.tmp rfl) ((hS.blk 3 rfl).celln rfl)) ?_
   refine LW.pp (PEv.fieldAddr (off := 12) Tryd.underlying25 rfl rfl Tryd.sizeOf3 rfl (.tmp rfl)) ?_
   refine LW.pp (PEv.load Tryd.isAgg3 (.tmp rfl) ((hS.blk 3 rfl).celln rfl)) ?_
   refine LW.pp (PEv.fieldAddr (off := 14) Tryd.underlying25 rfl rfl Tryd.sizeOf3 rfl (.tmp rfl)) ?_
   refine LW.pp (PEv.load Tryd.isAgg3 (.tmp rfl) ((hS.blk 3 rfl).celln rfl)) ?_
   refine LW.c (enter_call0 (.cons (.tmp rfl) (.cons (.tmp rfl) (.cons (.tmp rfl) (.cons (.tmp rfl) .nil)))) (Tryd.en14)) rfl rfl rfl rfl (Decisions_any bc b f.Tool f.Chamber f.Recipe _ (hC.up hS.upd) hlP hlR hlM hlT) ?_
   rintro _ w11 ⟨v29, L, rfl, hLm, hT⟩
   replace hS := hS.join hT
   change Wx.Sep no _ _ [_, _, _, _, _, _] at hS
   have hLl : L.length ≤ 400 := by have h1 := congrArg List.length hLm; rw [List.length_map, desF_len] at h1; have h2 := rnsF_len b f.Tool f.Chamber f.Recipe; omega
   obtain ⟨ad29, cp29, rfl, _⟩ := (hS.own 4 rfl).sl (fun _ => rfl)
   have hEL : Els w11 ad29 6 DP.cells L := (hS.own 4 rfl).els (fun _ => rfl)
   refine LW.A rfl (LW.S (CW.region (LW.M rfl ?_)))
   refine LW.pp (PEv.makeFunc (.cons (.tmp rfl) .nil)) ?_
   refine LW.c (enter_call0 (.cons (.tmp rfl) (.cons (.tmp rfl) .nil)) (Tryd.en28)) rfl rfl rfl rfl (indexD_any 29 #[.pointer (some ⟨B3, 0, none⟩)] (fun x => decide (x.dec.run = id)) Tryd.en29 ad29 cp29 L _ hEL (by omega) (fun W u x => expl1_any x id B3 W ((hS.blk 1 rfl).up u))) ?_
   rintro _ w12 ⟨i, rfl, hi, uw12⟩
   have zw12 := uw12.size
   replace hS := hS.up uw12
   clear hEL
   refine LW.A rfl (LW.S (CW.S (LW.M rfl ?_)))
   refine LW.pp (PEv.lss (.tmp rfl) (.const _)) ?_
   refine LW.T ?_
   refine CW.cond (.tmp rfl) (fun h34 => ?_) (fun h34 => ?_)
   ·first | replace h34 := dT h34 | replace h34 := dF h34 | skip
    refine CW.seq ?_
    have hn := (hi.resolve_left (fun ⟨k, x, e, _⟩ => by omega)).2
    refine CW.region ?_
    refine LW.pp (PEv.build (cs := DP.cells ⟨dec0, none, 0⟩) Tryd.underlying33 Tryd.zeroValue33 Tryd.places33 .nil (by kernel_rfl)) ?_
    refine LW.s (SEv.storeA Tryd.sizeOf33 rfl (.tmp rfl) (.tmp rfl) (DP.one _) (hS.blk 2 rfl) rfl) rfl rfl rfl ?_
    intro w13 Nw13
    have zw13 := Nw13.size
    replace hS := hS.putB 2 rfl (show Set_ _ w13 _ (DP.cells ⟨dec0, none, 0⟩) _ from Nw13)
    change Wx.Sep _ _ _ [_, _, _, _, _, _] at hS
    refine LW.C (LW.C (LW.T (CW.ret (KW.then_ret ?_))))
    refine KW.retATT rfl rfl rfl rfl Tryd.isAgg33 Tryd.sizeOf33 rfl (hS.blk 2 rfl).agg ⟨_, rfl, ?_⟩
    rw [expF_no hq1 hLm hn]
    exact ⟨_, rfl, ⟨none, 0, rfl, Sl.nil _ _ _⟩, hS.upd⟩
   ·first | replace h34 := dT h34 | replace h34 := dF h34 | skip
    refine CW.skip (KW.then (CW.seq ?_))
    obtain ⟨k, x, rfl, hx, hr, hn⟩ := hi.resolve_right (fun ⟨e, _⟩ => by omega)
    have hkl := (List.getElem?_eq_some_iff.1 hx).1
    refine CW.region ?_
    refine LW.pp (PEv.fieldAddr (off := 16) Tryd.underlying25 rfl rfl Tryd.sizeOf3 rfl (.tmp rfl)) ?_
    refine LW.pp (PEv.load Tryd.isAgg3 (.tmp rfl) ((hS.blk 3 rfl).celln rfl)) ?_
    refine LW.c (enter_call0 (.cons (.tmp rfl) (.cons (.const _) .nil)) (Tryd.en30)) rfl rfl rfl rfl (Make_any f.Value 1000 _ (hV f (procB_mem hq1)) (by decide) ⟨by decide, by decide⟩) ?_
    rintro _ w14 ⟨rfl, uw14⟩
    have zw14 := uw14.size
    replace hS := hS.up uw14
    refine LW.M rfl (LW.pp (PEv.extract (.tmp rfl) rfl) (LW.pp (PEv.extract (.tmp rfl) rfl) ?_))
    refine LW.r (REv.allocA Tryd.zeroValue30) rfl rfl rfl rfl ?_
    rintro _ w15 ⟨B11, rfl, MB11⟩
    refine LW.s (SEv.storeA Tryd.sizeOf30 rfl (.tmp rfl) (.tmp rfl) (Rt.one _) MB11.blk rfl) rfl rfl rfl ?_
    intro w16 LB11
    have NB11 := MB11.set LB11
    clear LB11 MB11
    have eB11 := NB11.at_
    have zB11 := NB11.size
    replace hS := hS.addB NB11
    change Wx.Sep _ _ _ [_, _, _, _, _, _, _] at hS
    refine LW.A rfl (LW.S ?_)
    obtain ⟨Bx, ox, ax, hcx⟩ := (show Els w16 ad29 6 DP.cells L from (hS.own 4 rfl).els (fun _ => rfl)) k x hx
    subst ax
    have hnB : Bx ≠ B4 := fun e => hS.ne (i := 2) (j := 4) (by decide) rfl rfl B4 rfl (by show some Bx = some B4; rw [e])
    cases hq9 : fitsF f.Value 1000 with
    | true =>
     have h47 : decide ((mkF f.Value 1000).2 = 0) = true := by rw [mkF_fits hq9]; rfl
     refine CW.freeS 16 15 [.slice (some ⟨Bx, ox, none⟩) L.length cp29, vi (k : Int), .pointer (some ⟨Bx, ox + k * 6, none⟩), .agg x.cells, vi (mkF f.Value 1000).2, .bool true, .bool true, .agg (mkF f.Value 1000).1.cells, .slice (some ⟨Bx, ox, none⟩) L.length cp29, vi (k : Int), .pointer (some ⟨Bx, ox + k * 6, none⟩), .pointer (some ⟨Bx, ox + k * 6 + 1, none⟩), .agg x.dec.par.cells, .bool (rtB (mkF f.Value 1000).1 x.dec.par), .bool (true && rtB (mkF f.Value 1000).1 x.dec.par), undef] [14] ((· = B4)) (fun W => Blk W B4 (DP.cells ⟨dec0, none, 0⟩) 33) (fun W => Blk W B4 x.cells 33) (by kernel_rfl) rfl (by kernel_rfl) (by kernel_rfl) (by kernel_rfl) (by kernel_rfl) (by kernel_rfl) (by kernel_rfl) (by kernel_rfl) (by decide) ((hS.up (Up.drew _)).blk 2 rfl) (fun _ _ h u => h.up u) (fun _ _ h u => h.up u) ?_ ?_ (by kernel_rfl)
     ·intro W hU0
      have hU := ((Up.drew w16).fr ((· = B4))).trans hU0
      have hcW : AggAt W Bx (ox + k * 6) x.cells := fun j v hv => cell_fr (hcx j v hv) hU hnB
      have hB11 : Blk W B11 (mkF f.Value 1000).1.cells 30 := (hS.blk 6 rfl).fr hU (fun e => hS.blkNe 2 6 (by decide) rfl rfl e.symm)
      refine allL.cons ⟨fun _ => TW.p (PEv.move (.tmp rfl)) rfl, fun e => absurd e (by decide)⟩ ?_
      refine allL.cons ⟨fun _ => TW.p (PEv.move (.tmp rfl)) rfl, fun e => absurd e (by decide)⟩ ?_
      refine allL.cons ⟨fun _ => TW.p (PEv.indexAddr' Tryd.underlying46 Tryd.sizeOf33 (.tmp rfl) (.tmp rfl) hkl rfl) rfl, fun e => absurd e (by decide)⟩ ?_
      refine allL.cons ⟨fun _ => TW.p (PEv.loadA Tryd.isAgg33 Tryd.sizeOf33 rfl (.tmp rfl) (hcW)) rfl, fun e => absurd e (by decide)⟩ ?_
      refine allL.cons ⟨fun _ => TW.p (PEv.move (.tmp rfl)) rfl, fun e => absurd e (by decide)⟩ ?_
      refine allL.cons ⟨fun _ => TW.p (PEv.tr (PEv.eql (.tmp rfl) (.const _)) h47) rfl, fun e => absurd e (by decide)⟩ ?_
      refine allL.cons ⟨fun _ => TW.p (PEv.move (.tmp rfl)) rfl, fun e => absurd e (by decide)⟩ ?_
      refine allL.cons ⟨fun _ => TW.yp (PEv.loadA Tryd.isAgg30 Tryd.sizeOf30 rfl (.tmp rfl) (hB11.agg)) rfl rfl rfl rfl rfl, fun e => absurd e (by decide)⟩ ?_
      refine allL.cons ⟨fun _ => TW.yp (PEv.move (.tmp rfl)) rfl rfl rfl rfl rfl, fun e => absurd e (by decide)⟩ ?_
      refine allL.cons ⟨fun _ => TW.yp (PEv.move (.tmp rfl)) rfl rfl rfl rfl rfl, fun e => absurd e (by decide)⟩ ?_
      refine allL.cons ⟨fun _ => TW.yp (PEv.indexAddr' Tryd.underlying46 Tryd.sizeOf33 (.tmp rfl) (.tmp rfl) hkl rfl) rfl rfl rfl rfl rfl, fun e => absurd e (by decide)⟩ ?_
      refine allL.cons ⟨fun _ => TW.yp (PEv.fieldAddr (off := 1) Tryd.underlying33 rfl rfl Tryd.sizeOf30 rfl (.tmp rfl)) rfl rfl rfl rfl rfl, fun e => absurd e (by decide)⟩ ?_
      refine allL.cons ⟨fun _ => TW.yp (PEv.loadA Tryd.isAgg30 Tryd.sizeOf30 rfl (.tmp rfl) (dp_par hcW)) rfl rfl rfl rfl rfl, fun e => absurd e (by decide)⟩ ?_
      refine allL.cons ⟨fun _ => TW.yp (PEv.eqlA Tryd.eqGuardType30 (Tryd.eqRt _ _) (.tmp rfl) (.tmp rfl)) rfl rfl rfl rfl rfl, fun e => absurd e (by decide)⟩ ?_
      refine allL.cons ⟨fun _ => TW.p (PEv.pick_and (.tmp rfl) (fun _ => .tmp rfl)) rfl, fun e => absurd e (by decide)⟩ ?_
      refine allL.cons ⟨fun e => absurd rfl e, fun _ => ⟨fun hpre => SEv.mono (SEv.storeA Tryd.sizeOf33 rfl (.tmp rfl) (.tmp rfl) (DP.one x) hpre rfl) (fun W2 N => ⟨N.sto.fr, N.blk⟩), rfl, rfl⟩⟩ ?_
      exact allL.nil
     ·intro w17 hU0 hP
      have hU := ((Up.drew w16).fr ((· = B4))).trans hU0
      have zw17 := hU.size
      replace hS := hS.step 2 rfl (A' := aBlk B4 x.cells 33) hU hP (fun _ hi => .inl hi)
      change Wx.Sep no _ _ [_, _, _, _, _, _, _] at hS
      change LW _ _ _ _ _ _ _ _ ((56, .eq (.bool (true && rtB (mkF f.Value 1000).1 x.dec.par))) :: _) _
      refine LW.A rfl (LW.C (LW.T (CW.ret ?_)))
      refine KW.retATT rfl rfl rfl rfl Tryd.isAgg33 Tryd.sizeOf33 rfl (hS.blk 2 rfl).agg ⟨_, rfl, ?_⟩
      rw [expF_some hq1 hLm hx hr hn, mkF_fits hq9]
      exact ⟨_, rfl, ⟨x.ad, x.cp, rfl, usesA_get (hS.get 5 rfl) x (List.mem_of_getElem? hx)⟩, hS.upd⟩
    | false =>
     have h47 : decide ((mkF f.Value 1000).2 = 0) = false := by rw [mkFno hq9]; rfl
     refine CW.freeS 16 15 [.slice (some ⟨Bx, ox, none⟩) L.length cp29, vi (k : Int), .pointer (some ⟨Bx, ox + k * 6, none⟩), .agg x.cells, vi (mkF f.Value 1000).2, .bool false, .bool false, undef, undef, undef, undef, undef, undef, undef, .bool (false && false), undef] [14] ((· = B4)) (fun W => Blk W B4 (DP.cells ⟨dec0, none, 0⟩) 33) (fun W => Blk W B4 x.cells 33) (by kernel_rfl) rfl (by kernel_rfl) (by kernel_rfl) (by kernel_rfl) (by kernel_rfl) (by kernel_rfl) (by kernel_rfl) (by kernel_rfl) (by decide) ((hS.up (Up.drew _)).blk 2 rfl) (fun _ _ h u => h.up u) (fun _ _ h u => h.up u) ?_ ?_ (by kernel_rfl)
     ·intro W hU0
      have hU := ((Up.drew w16).fr ((· = B4))).trans hU0
      have hcW : AggAt W Bx (ox + k * 6) x.cells := fun j v hv => cell_fr (hcx j v hv) hU hnB
      have hB11 : Blk W B11 (mkF f.Value 1000).1.cells 30 := (hS.blk 6 rfl).fr hU (fun e => hS.blkNe 2 6 (by decide) rfl rfl e.symm)
      refine allL.cons ⟨fun _ => TW.p (PEv.move (.tmp rfl)) rfl, fun e => absurd e (by decide)⟩ ?_
      refine allL.cons ⟨fun _ => TW.p (PEv.move (.tmp rfl)) rfl, fun e => absurd e (by decide)⟩ ?_
      refine allL.cons ⟨fun _ => TW.p (PEv.indexAddr' Tryd.underlying46 Tryd.sizeOf33 (.tmp rfl) (.tmp rfl) hkl rfl) rfl, fun e => absurd e (by decide)⟩ ?_
      refine allL.cons ⟨fun _ => TW.p (PEv.loadA Tryd.isAgg33 Tryd.sizeOf33 rfl (.tmp rfl) (hcW)) rfl, fun e => absurd e (by decide)⟩ ?_
      refine allL.cons ⟨fun _ => TW.p (PEv.move (.tmp rfl)) rfl, fun e => absurd e (by decide)⟩ ?_
      refine allL.cons ⟨fun _ => TW.p (PEv.fa (PEv.eql (.tmp rfl) (.const _)) h47) rfl, fun e => absurd e (by decide)⟩ ?_
      refine allL.cons ⟨fun _ => TW.p (PEv.move (.tmp rfl)) rfl, fun e => absurd e (by decide)⟩ ?_
      refine allL.cons ⟨fun _ => TW.no rfl rfl rfl rfl rfl rfl, fun e => absurd e (by decide)⟩ ?_
      refine allL.cons ⟨fun _ => TW.no rfl rfl rfl rfl rfl rfl, fun e => absurd e (by decide)⟩ ?_
      refine allL.cons ⟨fun _ => TW.no rfl rfl rfl rfl rfl rfl, fun e => absurd e (by decide)⟩ ?_
      refine allL.cons ⟨fun _ => TW.no rfl rfl rfl rfl rfl rfl, fun e => absurd e (by decide)⟩ ?_
      refine allL.cons ⟨fun _ => TW.no rfl rfl rfl rfl rfl rfl, fun e => absurd e (by decide)⟩ ?_
      refine allL.cons ⟨fun _ => TW.no rfl rfl rfl rfl rfl rfl, fun e => absurd e (by decide)⟩ ?_
      refine allL.cons ⟨fun _ => TW.no rfl rfl rfl rfl rfl rfl, fun e => absurd e (by decide)⟩ ?_
      refine allL.cons ⟨fun _ => TW.p (PEv.pick_and (b := false) (.tmp rfl) (fun hp => absurd (show false = true from hp) (by decide))) rfl, fun e => absurd e (by decide)⟩ ?_
      refine allL.cons ⟨fun e => absurd rfl e, fun _ => ⟨fun hpre => SEv.mono (SEv.storeA Tryd.sizeOf33 rfl (.tmp rfl) (.tmp rfl) (DP.one x) hpre rfl) (fun W2 N => ⟨N.sto.fr, N.blk⟩), rfl, rfl⟩⟩ ?_
      exact allL.nil
     ·intro w18 hU0 hP
      have hU := ((Up.drew w16).fr ((· = B4))).trans hU0
      have zw18 := hU.size
      replace hS := hS.step 2 rfl (A' := aBlk B4 x.cells 33) hU hP (fun _ hi => .inl hi)
      change Wx.Sep no _ _ [_, _, _, _, _, _, _] at hS
      change LW _ _ _ _ _ _ _ _ ((56, .eq (.bool (false && false))) :: _) _
      refine LW.A rfl (LW.C (LW.T (CW.ret ?_)))
      refine KW.retATT rfl rfl rfl rfl Tryd.isAgg33 Tryd.sizeOf33 rfl (hS.blk 2 rfl).agg ⟨_, rfl, ?_⟩
      rw [expF_some hq1 hLm hx hr hn, mkFno hq9]
      exact ⟨_, rfl, ⟨x.ad, x.cp, rfl, usesA_get (hS.get 5 rfl) x (List.mem_of_getElem? hx)⟩, hS.upd⟩
end Go.Proofs.YtgffaeachbbjoaaDoor
end
section
namespace Go.Wx
def exR (i t v : Int) : Fact := { zeroF with Kind := 1, Version := 1, ID := i, Wafer := 1, Tool := 4, Recipe := 9, Revision := 1, Time := t, Until := t, Value := v }
def exT : Fact := { zeroF with Kind := 10, Version := 1, Recipe := 9, Value := 100 }
def exM (i t v : Int) : Fact := { zeroF with Kind := 2, Version := 1, ID := i, Time := t, Value := v }
def exZ : Fact := { zeroF with Kind := 9, Version := 1, ID := 1, Tool := 4, Time := 18 }
def exB : Base := ⟨[exR 1 10 0, exR 2 20 98000, exR 3 30 100000], [exM 1 15 108, exM 2 25 101], [], [], [], [], [], [], [], [exT], []⟩
def exB2 : Base := { exB with Resets := [exZ] }
def rI (n : Int) : Rt := ⟨n, 1⟩
theorem ex_des : desF exB 4 0 9 = [⟨1, rI 100, rI 0, []⟩, ⟨2, rI 98, rI 2, [1]⟩, ⟨3, rI 98, rI 2, [1]⟩] := by kernel_rfl
theorem ex_d12 : decNow exB 4 0 9 12 = ⟨0, rI 100, rI 0, []⟩ := by kernel_rfl
theorem ex_d15 : decNow exB 4 0 9 15 = ⟨0, rI 98, rI 2, [1]⟩ := by kernel_rfl
theorem ex_e2 : expF exB 2 = (⟨2, rI 98, rI 2, [1]⟩, true, 0) := by kernel_rfl
theorem ex_e3 : expF exB 3 = (⟨3, rI 98, rI 2, [1]⟩, false, 0) := by kernel_rfl
theorem ex_e4 : expF exB 4 = (dec0, false, 200) := by kernel_rfl
theorem ex_des2 : desF exB2 4 0 9 = [⟨1, rI 100, rI 0, []⟩, ⟨2, rI 100, rI 0, []⟩, ⟨3, rI 100, rI 0, []⟩] := by kernel_rfl
end Go.Wx
namespace Go.Proofs.YtgffaeachbbjoaaDoor
open Go.Wx Go.RowKit
theorem pick_any (c n : Int) (w : World) (hn : n ≠ 0) : Ret Tryd.prog 5 #[vi c, vi n] w fun r w' => r = vi (pickI c n) ∧ Up w w' := by
  have hW := Up.refl w
  refine Calls_start (n := 13) (m := 9) Tryd.func5 rfl rfl rfl ?_
  refine CW.S (LW.C (LW.S (CW.S (LW.M rfl ?_))))
  refine LW.pp (PEv.lss (.tmp rfl) (.const _)) ?_
  refine LW.T ?_
  refine CW.cond (.tmp rfl) (fun h6 => ?_) (fun h6 => ?_)
  ·first | replace h6 := dT h6 | replace h6 := dF h6 | skip
   refine CW.region (LW.M rfl ?_)
   refine LW.pp (PEv.add_w (.tmp rfl) (.const _)) ?_
   refine LW.pp (PEv.neg Tryd.underlying3 (.tmp rfl)) ?_
   refine LW.A rfl (LW.S (CW.region (LW.M rfl (LW.M rfl ?_))))
   refine LW.pp (PEv.rem (.tmp rfl) (.tmp rfl) (by omega)) ?_
   refine LW.A rfl (LW.T (CW.ret ?_))
   refine KW.ret1 rfl rfl ⟨_, rfl, ?_⟩
   exact ⟨by first | (rw [pickI, if_pos h6]) | (rw [pickI, if_neg (by omega)]), hW⟩
  ·first | replace h6 := dT h6 | replace h6 := dF h6 | skip
   refine CW.skip (KW.then (CW.S (LW.M rfl (LW.M rfl ?_))))
   refine LW.pp (PEv.rem (.tmp rfl) (.tmp rfl) (by omega)) ?_
   refine LW.A rfl (LW.T (CW.ret ?_))
   refine KW.ret1 rfl rfl ⟨_, rfl, ?_⟩
   exact ⟨by first | (rw [pickI, if_pos h6]) | (rw [pickI, if_neg (by omega)]), hW⟩
end Go.Proofs.YtgffaeachbbjoaaDoor
end
section
namespace Go.Wx
theorem dp_uses {w : World} {B o : Nat} {p : DP} (h : AggAt w B o p.cells) : w.cell? ⟨B, o + 5, none⟩ = some p.uv := h 5 _ rfl
theorem dp_run {w : World} {B o : Nat} {p : DP} (h : AggAt w B o p.cells) : w.cell? ⟨B, o, none⟩ = some (vi p.dec.run) := h 0 _ rfl
theorem dp_est {w : World} {B o : Nat} {p : DP} (h : AggAt w B o p.cells) : AggAt w B (o + 3) p.dec.est.cells := fun j v hv => by
  have h2 : p.cells[3 + j]? = some v := by
    match j with
    | 0 => simpa [Rt.cells, DP.cells, DecV.cells, Dec.v] using hv
    | 1 => simpa [Rt.cells, DP.cells, DecV.cells, Dec.v] using hv
    | j + 2 => simp [Rt.cells] at hv
  have := h (3 + j) v h2
  rwa [show o + (3 + j) = o + 3 + j by omega] at this
theorem dp_par0 {w : World} {B : Nat} {p : DP} {T : TypeId} (h : Blk w B p.cells T) : AggAt w B 1 p.dec.par.cells := by have := dp_par h.agg; rwa [Nat.zero_add] at this
theorem els_p {w : World} {ad : Option Addr} {p q r : DP} (h : Els w ad 6 DP.cells [p, q, r]) : ∃ B o, ad = some ⟨B, o, none⟩ ∧ AggAt w B (o + 0 * 6) p.cells ∧ AggAt w B (o + 1 * 6) q.cells ∧ AggAt w B (o + 2 * 6) r.cells := by
  obtain ⟨B, o, e, h0⟩ := h 0 p rfl
  obtain ⟨B1, o1, e1, h1⟩ := h 1 q rfl
  obtain ⟨B2, o2, e2, h2⟩ := h 2 r rfl
  cases e.symm.trans e1
  cases e.symm.trans e2
  exact ⟨B, o, e, h0, h1, h2⟩
theorem sl_hd {w : World} {ad : Option Addr} {n c : Nat} {x : Int} {xs : List Int} (h : Sl w (.slice ad n c) 1 eInt (x :: xs)) : ∃ B o, ad = some ⟨B, o, none⟩ ∧ AggAt w B (o + 0 * 1) (eInt x) := by
  obtain ⟨ad, c, e, hE⟩ := h
  cases e
  obtain ⟨B, o, e1, h1⟩ := hE 0 x rfl
  exact ⟨B, o, e1, h1⟩
theorem dps3 {L : List DP} {a b c : Dec} (h : L.map DP.dec = [a, b, c]) : ∃ a1 c1 a2 c2 a3 c3, L = [⟨a, a1, c1⟩, ⟨b, a2, c2⟩, ⟨c, a3, c3⟩] := by
  match L, h with
  | [⟨p, a1, c1⟩, ⟨q, a2, c2⟩, ⟨r, a3, c3⟩], h =>
    injection h with h1 h
    injection h with h2 h
    injection h with h3 _
    dsimp only at h1 h2 h3
    subst h1 h2 h3
    exact ⟨a1, c1, a2, c2, a3, c3, rfl⟩
theorem exV : ∀ f ∈ exB.Processes, inI f.Value := fun f hf => by
  rcases List.mem_cons.1 hf with rfl | hf
  · exact ⟨by decide, by decide⟩
  · rcases List.mem_cons.1 hf with rfl | hf
    · exact ⟨by decide, by decide⟩
    · rcases List.mem_cons.1 hf with rfl | hf
      · exact ⟨by decide, by decide⟩
      · cases hf
theorem els_stoF {w w' : World} {B : Nat} {cs : Array Value} {T : TypeId} {ad : Option Addr} {xs : List Fact} (h : Els w ad 19 Fact.cells xs) (hb : Blk w B cs T) (hc : ∀ (i : Nat) (n : Int), cs[i]? ≠ some (vi n)) (u : Sto B w w') : Els w' ad 19 Fact.cells xs := fun i x hx => by
  obtain ⟨B', o, e, h1⟩ := h i x hx
  refine ⟨B', o, e, h1.sto u ?_⟩
  intro e2
  have h2 := h1 0 (vi x.Kind) rfl
  rw [e2] at h2
  have h3 : cs[o + i * 19 + 0]? = some (vi x.Kind) := by
    unfold World.cell? at h2
    rw [show w.heap[B]? = some (.cells cs T (0, 0)) from hb] at h2
    simpa using h2
  exact hc _ _ h3
theorem sl_stoF {w w' : World} {B : Nat} {cs : Array Value} {T : TypeId} {v : Value} {xs : List Fact} (h : Sl w v 19 Fact.cells xs) (hb : Blk w B cs T) (hc : ∀ (i : Nat) (n : Int), cs[i]? ≠ some (vi n)) (u : Sto B w w') : Sl w' v 19 Fact.cells xs := let ⟨ad, c, e, hE⟩ := h; ⟨ad, c, e, els_stoF hE hb hc u⟩
theorem base_sto {w w' : World} {B : Nat} {cs : Array Value} {T : TypeId} {bc : Array Value} {b : Base} (h : BaseC w bc b) (hb : Blk w B cs T) (hc : ∀ (i : Nat) (n : Int), cs[i]? ≠ some (vi n)) (u : Sto B w w') : BaseC w' bc b := by
  obtain ⟨v0, v1, v2, v3, v4, v5, v6, v7, v8, v9, v10, e, h0, h1, h2, h3, h4, h5, h6, h7, h8, h9, h10⟩ := h
  have f : ∀ {v : Value} {xs : List Fact}, Sl w v 19 Fact.cells xs → Sl w' v 19 Fact.cells xs := fun h => sl_stoF h hb hc u
  exact ⟨v0, v1, v2, v3, v4, v5, v6, v7, v8, v9, v10, e, f h0, f h1, f h2, f h3, f h4, f h5, f h6, f h7, f h8, f h9, f h10⟩
end Go.Wx
namespace Go.Proofs.YtgffaeachbbjoaaDoor
open Go.Wx Go.RowKit
theorem rwhole_any (n : Int) (w : World) : Ret Tryd.prog 8 #[vi n] w fun r w' => r = .agg (rI n).cells ∧ Up w w' := by
  obtain ⟨w0, rfl⟩ : ∃ w0, w0 = w := ⟨_, rfl⟩
  have hS := Sep.start no w0
  refine Calls_start (n := 5) (m := 9) Tryd.func8 rfl rfl rfl ?_
  refine CW.S ?_
  refine LW.r (REv.allocA Tryd.zeroValue30) rfl rfl rfl rfl ?_
  rintro _ w1 ⟨B2, rfl, NB2⟩
  have eB2 := NB2.at_
  have zB2 := NB2.size
  replace hS := hS.addB NB2
  change Wx.Sep _ _ _ [_] at hS
  refine LW.S (CW.region (LW.M rfl ?_))
  refine LW.pp (PEv.build (cs := (rI n).cells) Tryd.underlying30 Tryd.zeroValue30 Tryd.places30 (.cons (.tmp rfl) (.cons (.const _) .nil)) rfl) ?_
  refine LW.s (SEv.storeA Tryd.sizeOf30 rfl (.tmp rfl) (.tmp rfl) (Rt.one _) (hS.blk 0 rfl) rfl) rfl rfl rfl ?_
  intro w2 Nw2
  have zw2 := Nw2.size
  replace hS := hS.putB 0 rfl (show Set_ _ w2 _ ((rI n).cells) _ from Nw2)
  change Wx.Sep _ _ _ [_] at hS
  refine LW.T (CW.ret ?_)
  refine KW.retA rfl rfl Tryd.isAgg30 Tryd.sizeOf30 rfl ((hS.blk 0 rfl).agg) ⟨_, rfl, ?_⟩
  exact ⟨rfl, hS.upd⟩
theorem run_any (i t v : Int) (w : World) : Ret Tryd.prog 11 #[vi i, vi t, vi v] w fun r w' => r = .agg (exR i t v).cells ∧ Up w w' := by
  obtain ⟨w0, rfl⟩ : ∃ w0, w0 = w := ⟨_, rfl⟩
  have hS := Sep.start no w0
  refine Calls_start (n := 12) (m := 9) Tryd.func11 rfl rfl rfl ?_
  refine CW.S ?_
  refine LW.r (REv.allocA Tryd.zeroValue25) rfl rfl rfl rfl ?_
  rintro _ w1 ⟨B6, rfl, NB6⟩
  have eB6 := NB6.at_
  have zB6 := NB6.size
  replace hS := hS.addB NB6
  change Wx.Sep _ _ _ [_] at hS
  refine LW.S (CW.region (LW.M rfl (LW.M rfl (LW.M rfl (LW.M rfl ?_)))))
  refine LW.pp (PEv.build (cs := (exR i t v).cells) Tryd.underlying25 Tryd.zeroValue25 Tryd.places25 (.cons (.const _) (.cons (.const _) (.cons (.tmp rfl) (.cons (.const _) (.cons (.const _) (.cons (.const _) (.cons (.const _) (.cons (.tmp rfl) (.cons (.tmp rfl) (.cons (.tmp rfl) .nil)))))))))) (by kernel_rfl)) ?_
  refine LW.s (SEv.storeA Tryd.sizeOf25 rfl (.tmp rfl) (.tmp rfl) (Fact.one _) (hS.blk 0 rfl) rfl) rfl rfl rfl ?_
  intro w2 Nw2
  have zw2 := Nw2.size
  replace hS := hS.putB 0 rfl (show Set_ _ w2 _ ((exR i t v).cells) _ from Nw2)
  change Wx.Sep _ _ _ [_] at hS
  refine LW.T (CW.ret ?_)
  refine KW.retA rfl rfl Tryd.isAgg25 Tryd.sizeOf25 rfl ((hS.blk 0 rfl).agg) ⟨_, rfl, ?_⟩
  exact ⟨rfl, hS.upd⟩
theorem example_any (w : World) : Ret Tryd.prog 13 #[] w fun r w' => ∃ bc, r = .agg bc ∧ BaseC w' bc exB ∧ Up w w' := by
  have hW := Up.refl w
  obtain ⟨w0, rfl⟩ : ∃ w0, w0 = w := ⟨_, rfl⟩
  refine Calls_start (n := 11) (m := 9) Tryd.func13 rfl rfl rfl ?_
  refine CW.S ?_
  refine LW.r (REv.allocA Tryd.zeroValue28) rfl rfl rfl rfl ?_
  rintro _ w1 ⟨B0, rfl, NB0⟩
  have eB0 := NB0.at_
  have zB0 := NB0.size
  replace hW := hW.up NB0.up
  have hB0 := NB0.blk
  refine LW.S (CW.region ?_)
  refine LW.c (enter_call0 (.cons (.const _) (.cons (.const _) (.cons (.const _) .nil))) (Tryd.en11)) rfl rfl rfl rfl (run_any _ _ _ _) ?_
  rintro _ w2 ⟨rfl, uw2⟩
  have zw2 := uw2.size
  replace hW := hW.up uw2
  replace hB0 := hB0.up uw2
  refine LW.c (enter_call0 (.cons (.const _) (.cons (.const _) (.cons (.const _) .nil))) (Tryd.en11)) rfl rfl rfl rfl (run_any _ _ _ _) ?_
  rintro _ w3 ⟨rfl, uw3⟩
  have zw3 := uw3.size
  replace hW := hW.up uw3
  replace hB0 := hB0.up uw3
  refine LW.c (enter_call0 (.cons (.const _) (.cons (.const _) (.cons (.const _) .nil))) (Tryd.en11)) rfl rfl rfl rfl (run_any _ _ _ _) ?_
  rintro _ w4 ⟨rfl, uw4⟩
  have zw4 := uw4.size
  replace hW := hW.up uw4
  replace hB0 := hB0.up uw4
  refine LW.r (REv.buildSlice (xs := [exR 1 10 0, exR 2 20 98000, exR 3 30 100000]) (enc := Fact.cells) (mk := fun f : Fact => .agg f.cells) Tryd.underlying26 Tryd.sizeOf25 Tryd.zeroValue25 rfl (by decide) (fun _ => rfl) (fun _ => rfl) (.cons (.tmp rfl) (.cons (.tmp rfl) (.cons (.tmp rfl) .nil))) rfl) rfl rfl rfl rfl ?_
  rintro _ w5 ⟨B4, cB4, rfl, NB4, yB4, xB4⟩
  have eB4 := NB4.at_
  have zB4 := NB4.size
  replace hW := hW.up NB4.up
  replace hB0 := hB0.up NB4.up
  have hB4 := NB4.blk
  have hE4 := xB4
  refine LW.pp (PEv.build (cs := exT.cells) Tryd.underlying25 Tryd.zeroValue25 Tryd.places25 (.cons (.const _) (.cons (.const _) (.cons (.const _) (.cons (.const _) .nil)))) (by kernel_rfl)) ?_
  refine LW.r (REv.buildSlice (xs := [exT]) (enc := Fact.cells) (mk := fun f : Fact => .agg f.cells) Tryd.underlying26 Tryd.sizeOf25 Tryd.zeroValue25 rfl (by decide) (fun _ => rfl) (fun _ => rfl) (.cons (.tmp rfl) .nil) rfl) rfl rfl rfl rfl ?_
  rintro _ w6 ⟨B6, cB6, rfl, NB6, yB6, xB6⟩
  have eB6 := NB6.at_
  have zB6 := NB6.size
  replace hW := hW.up NB6.up
  replace hB0 := hB0.up NB6.up
  replace hB4 := hB4.up NB6.up
  replace hE4 := hE4.up NB6.up
  have hB6 := NB6.blk
  have hE6 := xB6
  refine LW.pp (PEv.build (cs := (exM 1 15 108).cells) Tryd.underlying25 Tryd.zeroValue25 Tryd.places25 (.cons (.const _) (.cons (.const _) (.cons (.const _) (.cons (.const _) (.cons (.const _) .nil))))) (by kernel_rfl)) ?_
  refine LW.pp (PEv.build (cs := (exM 2 25 101).cells) Tryd.underlying25 Tryd.zeroValue25 Tryd.places25 (.cons (.const _) (.cons (.const _) (.cons (.const _) (.cons (.const _) (.cons (.const _) .nil))))) (by kernel_rfl)) ?_
  refine LW.r (REv.buildSlice (xs := [exM 1 15 108, exM 2 25 101]) (enc := Fact.cells) (mk := fun f : Fact => .agg f.cells) Tryd.underlying26 Tryd.sizeOf25 Tryd.zeroValue25 rfl (by decide) (fun _ => rfl) (fun _ => rfl) (.cons (.tmp rfl) (.cons (.tmp rfl) .nil)) rfl) rfl rfl rfl rfl ?_
  rintro _ w7 ⟨B9, cB9, rfl, NB9, yB9, xB9⟩
  have eB9 := NB9.at_
  have zB9 := NB9.size
  replace hW := hW.up NB9.up
  replace hB0 := hB0.up NB9.up
  replace hB4 := hB4.up NB9.up
  replace hE4 := hE4.up NB9.up
  replace hB6 := hB6.up NB9.up
  replace hE6 := hE6.up NB9.up
  have hB9 := NB9.blk
  have hE9 := xB9
  refine LW.pp (PEv.build (cs := #[.slice (some ⟨B4, 0, none⟩) 3 3, .slice (some ⟨B9, 0, none⟩) 2 2, .slice none 0 0, .slice none 0 0, .slice none 0 0, .slice none 0 0, .slice none 0 0, .slice none 0 0, .slice none 0 0, .slice (some ⟨B6, 0, none⟩) 1 1, .slice none 0 0]) Tryd.underlying28 Tryd.zeroValue28 Tryd.places28 (.cons (.tmp rfl) (.cons (.tmp rfl) (.cons (.tmp rfl) .nil))) (by kernel_rfl)) ?_
  refine LW.s (SEv.storeA Tryd.sizeOf28 rfl (.tmp rfl) (.tmp rfl) (by simp [Value.oneCell']) hB0 rfl) rfl rfl rfl ?_
  intro w8 Nw8
  have zw8 := Nw8.size
  replace hW := hW.sto Nw8.sto (by omega)
  replace hB4 := hB4.sto Nw8.sto (by omega)
  replace hE4 := hE4.sto Nw8.sto (by omega)
  replace hB6 := hB6.sto Nw8.sto (by omega)
  replace hE6 := hE6.sto Nw8.sto (by omega)
  replace hB9 := hB9.sto Nw8.sto (by omega)
  replace hE9 := hE9.sto Nw8.sto (by omega)
  replace hB0 := Nw8.blk
  refine LW.T (CW.ret ?_)
  refine KW.retA rfl rfl Tryd.isAgg28 Tryd.sizeOf28 rfl (hB0.agg) ⟨_, rfl, ?_⟩
  exact ⟨_, rfl, ⟨_, _, _, _, _, _, _, _, _, _, _, rfl, Sl.of_els hE4, Sl.of_els hE9, Sl.nil _ _ _, Sl.nil _ _ _, Sl.nil _ _ _, Sl.nil _ _ _, Sl.nil _ _ _, Sl.nil _ _ _, Sl.nil _ _ _, Sl.of_els hE6, Sl.nil _ _ _⟩, hW⟩
end Go.Proofs.YtgffaeachbbjoaaDoor
end
section
namespace Go.Proofs.YtgffaeachbbjoaaDoor
open Go.Wx Go.RowKit
theorem ex2_any (bc : Array Go.Value) (w : World) (hC : BaseC w bc exB) : Ret Tryd.prog 12 #[.agg bc, vi 2] w fun r w' => ∃ v, r = .tuple #[v, .bool true, vi 0] ∧ DecE w' v ⟨2, rI 98, rI 2, [1]⟩ ∧ Up w w' := by
  have h := Explain_any bc exB 2 w hC (by decide) (by decide) (by decide) (by decide) exV
  rw [ex_e2] at h; exact h
theorem ex3_any (bc : Array Go.Value) (w : World) (hC : BaseC w bc exB) : Ret Tryd.prog 12 #[.agg bc, vi 3] w fun r w' => ∃ v, r = .tuple #[v, .bool false, vi 0] ∧ DecE w' v ⟨3, rI 98, rI 2, [1]⟩ ∧ Up w w' := by
  have h := Explain_any bc exB 3 w hC (by decide) (by decide) (by decide) (by decide) exV
  rw [ex_e3] at h; exact h
theorem ex4_any (bc : Array Go.Value) (w : World) (hC : BaseC w bc exB) : Ret Tryd.prog 12 #[.agg bc, vi 4] w fun r w' => ∃ v, r = .tuple #[v, .bool false, vi 200] ∧ DecE w' v dec0 ∧ Up w w' := by
  have h := Explain_any bc exB 4 w hC (by decide) (by decide) (by decide) (by decide) exV
  rw [ex_e4] at h; exact h
theorem exd12_any (bc : Array Go.Value) (w : World) (hC : BaseC w bc exB) : Ret Tryd.prog 6 #[.agg bc, vi 4, vi 0, vi 9, vi 12] w fun r w' => ∃ ad cp, r = .tuple #[.agg (DP.cells ⟨⟨0, rI 100, rI 0, []⟩, ad, cp⟩), vi 0] ∧ Up w w' := by
  have h := Decide_any bc exB 4 0 9 12 w hC (by decide) (by decide) (by decide) (by decide)
  rw [ex_d12] at h
  exact h.mono fun r w' ⟨v, e, ⟨ad, cp, e2, _⟩, u⟩ => ⟨ad, cp, by rw [e, e2], u⟩
theorem exd15_any (bc : Array Go.Value) (w : World) (hC : BaseC w bc exB) : Ret Tryd.prog 6 #[.agg bc, vi 4, vi 0, vi 9, vi 15] w fun r w' => ∃ ad cp, r = .tuple #[.agg (DP.cells ⟨⟨0, rI 98, rI 2, [1]⟩, ad, cp⟩), vi 0] ∧ Up w w' := by
  have h := Decide_any bc exB 4 0 9 15 w hC (by decide) (by decide) (by decide) (by decide)
  rw [ex_d15] at h
  exact h.mono fun r w' ⟨v, e, ⟨ad, cp, e2, _⟩, u⟩ => ⟨ad, cp, by rw [e, e2], u⟩
set_option maxHeartbeats 4000000 in
theorem sane_any (w : World) : Ret Tryd.prog 4 #[] w fun r w' => r = .bool true ∧ Up w w' := by
  obtain ⟨w0, rfl⟩ : ∃ w0, w0 = w := ⟨_, rfl⟩
  have hS := Sep.start no w0
  refine Calls_start (n := 171) (m := 9) Tryd.func4 rfl rfl rfl ?_
  refine CW.S (LW.C (LW.S (CW.region ?_)))
  refine LW.c (enter_call0 .nil (Tryd.en13)) rfl rfl rfl rfl (example_any _) ?_
  rintro _ w1 ⟨bc, rfl, hC, uw1⟩
  have zw1 := uw1.size
  replace hS := hS.up uw1
  refine LW.r (REv.allocA Tryd.zeroValue28) rfl rfl rfl rfl ?_
  rintro _ w2 ⟨B1, rfl, MB1⟩
  refine LW.s (SEv.storeA Tryd.sizeOf28 hC.size (.tmp rfl) (.tmp rfl) hC.one MB1.blk rfl) rfl rfl rfl ?_
  intro w3 LB1
  have NB1 := MB1.set LB1
  clear LB1 MB1
  have eB1 := NB1.at_
  have zB1 := NB1.size
  replace hC := hC.up NB1.up
  replace hS := hS.addB NB1
  change Wx.Sep _ _ _ [_] at hS
  refine LW.S (CW.region ?_)
  refine LW.pp (PEv.loadA Tryd.isAgg28 Tryd.sizeOf28 (hC.size) (.tmp rfl) ((hS.blk 0 rfl).agg)) ?_
  refine LW.c (enter_call0 (.cons (.tmp rfl) (.cons (.const _) (.cons (.const _) (.cons (.const _) .nil)))) (Tryd.en14)) rfl rfl rfl rfl (Decisions_any bc exB 4 0 9 _ (hC) (by decide) (by decide) (by decide) (by decide)) ?_
  rintro v21 w4 ⟨_, L21, rfl, hm21, hT21⟩
  rw [ex_des] at hm21
  obtain ⟨a1, c1, a2, c2, a3, c3, rfl⟩ := dps3 hm21
  replace hS := hS.join hT21
  replace hC := hC.up hT21.upd
  change Wx.Sep no _ _ [_, _, _] at hS
  obtain ⟨ad21, cp21, rfl, _⟩ := (hS.own 1 rfl).sl (fun _ => rfl)
  clear hT21 hm21
  refine LW.A rfl (LW.S (CW.region ?_))
  refine LW.pp (PEv.loadA Tryd.isAgg28 Tryd.sizeOf28 (hC.size) (.tmp rfl) ((hS.blk 0 rfl).agg)) ?_
  refine LW.c (enter_call0 (.cons (.tmp rfl) (.cons (.const _) (.cons (.const _) (.cons (.const _) (.cons (.const _) .nil))))) (Tryd.en6)) rfl rfl rfl rfl (exd12_any bc _ hC) ?_
  rintro _ w5 ⟨ad12_, cd12_, rfl, uw5⟩
  have zw5 := uw5.size
  replace hC := hC.up uw5
  replace hS := hS.up uw5
  refine LW.M rfl (LW.pp (PEv.extract (.tmp rfl) rfl) (LW.pp (PEv.extract (.tmp rfl) rfl) ?_))
  refine LW.r (REv.allocA Tryd.zeroValue33) rfl rfl rfl rfl ?_
  rintro _ w6 ⟨B3, rfl, MB3⟩
  refine LW.s (SEv.storeA Tryd.sizeOf33 rfl (.tmp rfl) (.tmp rfl) (DP.one _) MB3.blk rfl) rfl rfl rfl ?_
  intro w7 LB3
  have NB3 := MB3.set LB3
  clear LB3 MB3
  have eB3 := NB3.at_
  have zB3 := NB3.size
  replace hC := hC.up NB3.up
  replace hS := hS.addB NB3
  change Wx.Sep _ _ _ [_, _, _, _] at hS
  refine LW.A rfl (LW.S (CW.region ?_))
  refine LW.pp (PEv.loadA Tryd.isAgg28 Tryd.sizeOf28 (hC.size) (.tmp rfl) ((hS.blk 0 rfl).agg)) ?_
  refine LW.c (enter_call0 (.cons (.tmp rfl) (.cons (.const _) (.cons (.const _) (.cons (.const _) (.cons (.const _) .nil))))) (Tryd.en6)) rfl rfl rfl rfl (exd15_any bc _ hC) ?_
  rintro _ w8 ⟨ad15_, cd15_, rfl, uw8⟩
  have zw8 := uw8.size
  replace hC := hC.up uw8
  replace hS := hS.up uw8
  refine LW.M rfl (LW.pp (PEv.extract (.tmp rfl) rfl) (LW.pp (PEv.extract (.tmp rfl) rfl) ?_))
  refine LW.r (REv.allocA Tryd.zeroValue33) rfl rfl rfl rfl ?_
  rintro _ w9 ⟨B5, rfl, MB5⟩
  refine LW.s (SEv.storeA Tryd.sizeOf33 rfl (.tmp rfl) (.tmp rfl) (DP.one _) MB5.blk rfl) rfl rfl rfl ?_
  intro w10 LB5
  have NB5 := MB5.set LB5
  clear LB5 MB5
  have eB5 := NB5.at_
  have zB5 := NB5.size
  replace hC := hC.up NB5.up
  replace hS := hS.addB NB5
  change Wx.Sep _ _ _ [_, _, _, _, _] at hS
  refine LW.A rfl (LW.S (CW.region ?_))
  refine LW.pp (PEv.loadA Tryd.isAgg28 Tryd.sizeOf28 (hC.size) (.tmp rfl) ((hS.blk 0 rfl).agg)) ?_
  refine LW.c (enter_call0 (.cons (.tmp rfl) (.cons (.const _) .nil)) (Tryd.en12)) rfl rfl rfl rfl (ex2_any bc _ hC) ?_
  rintro _ w11 ⟨_, rfl, ⟨ae2, ce2, rfl, _⟩, uw11⟩
  have zw11 := uw11.size
  replace hC := hC.up uw11
  replace hS := hS.up uw11
  refine LW.M rfl (LW.pp (PEv.extract (.tmp rfl) rfl) (LW.pp (PEv.extract (.tmp rfl) rfl) (LW.pp (PEv.extract (.tmp rfl) rfl) ?_)))
  refine LW.r (REv.allocA Tryd.zeroValue33) rfl rfl rfl rfl ?_
  rintro _ w12 ⟨B7, rfl, MB7⟩
  refine LW.s (SEv.storeA Tryd.sizeOf33 rfl (.tmp rfl) (.tmp rfl) (DP.one _) MB7.blk rfl) rfl rfl rfl ?_
  intro w13 LB7
  have NB7 := MB7.set LB7
  clear LB7 MB7
  have eB7 := NB7.at_
  have zB7 := NB7.size
  replace hC := hC.up NB7.up
  replace hS := hS.addB NB7
  change Wx.Sep _ _ _ [_, _, _, _, _, _] at hS
  refine LW.A rfl (LW.A rfl (LW.S (CW.region ?_)))
  refine LW.pp (PEv.loadA Tryd.isAgg28 Tryd.sizeOf28 (hC.size) (.tmp rfl) ((hS.blk 0 rfl).agg)) ?_
  refine LW.c (enter_call0 (.cons (.tmp rfl) (.cons (.const _) .nil)) (Tryd.en12)) rfl rfl rfl rfl (ex3_any bc _ hC) ?_
  rintro _ w14 ⟨_, rfl, ⟨ae3, ce3, rfl, _⟩, uw14⟩
  have zw14 := uw14.size
  replace hC := hC.up uw14
  replace hS := hS.up uw14
  refine LW.M rfl (LW.pp (PEv.extract (.tmp rfl) rfl) (LW.pp (PEv.extract (.tmp rfl) rfl) (LW.pp (PEv.extract (.tmp rfl) rfl) ?_)))
  refine LW.r (REv.allocA Tryd.zeroValue33) rfl rfl rfl rfl ?_
  rintro _ w15 ⟨B10, rfl, MB10⟩
  refine LW.s (SEv.storeA Tryd.sizeOf33 rfl (.tmp rfl) (.tmp rfl) (DP.one _) MB10.blk rfl) rfl rfl rfl ?_
  intro w16 LB10
  have NB10 := MB10.set LB10
  clear LB10 MB10
  have eB10 := NB10.at_
  have zB10 := NB10.size
  replace hC := hC.up NB10.up
  replace hS := hS.addB NB10
  change Wx.Sep _ _ _ [_, _, _, _, _, _, _] at hS
  refine LW.A rfl (LW.A rfl (LW.S (CW.region ?_)))
  refine LW.pp (PEv.loadA Tryd.isAgg28 Tryd.sizeOf28 (hC.size) (.tmp rfl) ((hS.blk 0 rfl).agg)) ?_
  refine LW.c (enter_call0 (.cons (.tmp rfl) (.cons (.const _) .nil)) (Tryd.en12)) rfl rfl rfl rfl (ex4_any bc _ hC) ?_
  rintro _ w17 ⟨_, rfl, ⟨ae4, ce4, rfl, _⟩, uw17⟩
  have zw17 := uw17.size
  replace hC := hC.up uw17
  replace hS := hS.up uw17
  refine LW.M rfl (LW.pp (PEv.extract (.tmp rfl) rfl) (LW.pp (PEv.extract (.tmp rfl) rfl) (LW.pp (PEv.extract (.tmp rfl) rfl) ?_)))
  refine LW.r (REv.allocA Tryd.zeroValue33) rfl rfl rfl rfl ?_
  rintro _ w18 ⟨B13, rfl, MB13⟩
  refine LW.s (SEv.storeA Tryd.sizeOf33 rfl (.tmp rfl) (.tmp rfl) (DP.one _) MB13.blk rfl) rfl rfl rfl ?_
  intro w19 LB13
  have NB13 := MB13.set LB13
  clear LB13 MB13
  have eB13 := NB13.at_
  have zB13 := NB13.size
  replace hC := hC.up NB13.up
  replace hS := hS.addB NB13
  change Wx.Sep _ _ _ [_, _, _, _, _, _, _, _] at hS
  refine LW.A rfl (LW.A rfl (LW.S ?_))
  have hB1o := hS.blk 0 rfl
  refine CW.region ?_
  refine LW.pp (PEv.build (cs := exZ.cells) Tryd.underlying25 Tryd.zeroValue25 Tryd.places25 (.cons (.const _) (.cons (.const _) (.cons (.const _) (.cons (.const _) (.cons (.const _) .nil))))) (by kernel_rfl)) ?_
  refine LW.r (REv.buildSlice (xs := [exZ]) (enc := Fact.cells) (mk := fun f : Fact => .agg f.cells) Tryd.underlying26 Tryd.sizeOf25 Tryd.zeroValue25 rfl (by decide) (fun _ => rfl) (fun _ => rfl) (.cons (.tmp rfl) .nil) rfl) rfl rfl rfl rfl ?_
  rintro _ w20 ⟨B51, cB51, rfl, NB51, yB51, xB51⟩
  have eB51 := NB51.at_
  have zB51 := NB51.size
  replace hC := hC.up NB51.up
  replace hS := hS.up NB51.up
  replace hB1o := hB1o.up NB51.up
  have hE51 := xB51
  refine LW.pp (PEv.fieldAddr (off := 8) Tryd.underlying28 rfl rfl Tryd.sizeOf26 rfl (.tmp rfl)) ?_
  refine LW.s (SEv.store Tryd.sizeOf26 (.tmp rfl) (.tmp rfl) rfl (hS.blk 0 rfl) (by have := hC.size; omega)) rfl rfl rfl ?_
  intro w21 Nw21
  have zw21 := Nw21.size
  replace hS := hS.putB 0 rfl Nw21
  change Wx.Sep _ _ _ [_, _, _, _, _, _, _, _] at hS
  replace hC := (base_sto hC hB1o (fun i n => hC.no i n) Nw21.sto).setResets (sl_stoF (Sl.of_els (c := 1) hE51) hB1o (fun i n => hC.no i n) Nw21.sto)
  clear hB1o
  refine LW.S ?_
  replace hC : BaseC w21 _ exB2 := hC
  refine CW.region ?_
  refine LW.pp (PEv.loadA Tryd.isAgg28 Tryd.sizeOf28 (hC.size) (.tmp rfl) ((hS.blk 0 rfl).agg)) ?_
  refine LW.c (enter_call0 (.cons (.tmp rfl) (.cons (.const _) (.cons (.const _) (.cons (.const _) .nil)))) (Tryd.en14)) rfl rfl rfl rfl (Decisions_any _ exB2 4 0 9 _ (hC) (by decide) (by decide) (by decide) (by decide)) ?_
  rintro v54 w22 ⟨_, L54, rfl, hm54, hT54⟩
  rw [ex_des2] at hm54
  obtain ⟨e1, f1, e2, f2, e3, f3, rfl⟩ := dps3 hm54
  replace hS := hS.join hT54
  change Wx.Sep no _ _ [_, _, _, _, _, _, _, _, _, _] at hS
  obtain ⟨ad54, cp54, rfl, _⟩ := (hS.own 8 rfl).sl (fun _ => rfl)
  clear hT54 hm54
  refine LW.A rfl (LW.S (CW.seq ?_))
  obtain ⟨Bx, ox, ax, hp, hq, hr⟩ := els_p ((hS.own 1 rfl).els (fun _ => rfl))
  obtain ⟨By, oy, ay, hp2, hq2, hr2⟩ := els_p ((hS.own 8 rfl).els (fun _ => rfl))
  obtain ⟨Bu, ou, au, hcu⟩ := sl_hd (usesA_get (hS.get 2 rfl) ⟨⟨3, rI 98, rI 2, [1]⟩, a3, c3⟩ (by simp))
  refine CW.region (LW.M rfl ?_)
  refine LW.pp (PEv.lenS Tryd.underlying46 (.tmp rfl)) ?_
  refine LW.pp (PEv.fa (PEv.neq (.tmp rfl) (.const _)) (rfl)) ?_
  refine LW.M rfl ?_
  refine LW.Y ?_
  refine LW.M rfl ?_
  refine LW.Y ?_
  refine LW.pp (PEv.lenS Tryd.underlying46 (.tmp rfl)) ?_
  refine LW.Y ?_
  refine LW.pp (PEv.fa (PEv.neq (.tmp rfl) (.const _)) (rfl)) ?_
  refine LW.pp (PEv.pick_or (.tmp rfl) (fun hp => (by first | exact .const _ | exact .tmp rfl | exact .cond rfl (by first | assumption | simp_all)))) ?_
  refine LW.M rfl ?_
  refine LW.Y ?_
  refine LW.M rfl ?_
  refine LW.Y ?_
  refine LW.pp (PEv.indexAddr' Tryd.underlying46 Tryd.sizeOf33 (j := 2) (.tmp rfl) (.const _) (Nat.le_of_ble_eq_true rfl) ax) ?_
  refine LW.Y ?_
  refine LW.pp (PEv.fieldAddr (off := 5) Tryd.underlying33 rfl rfl Tryd.sizeOf31 rfl (.tmp rfl)) ?_
  refine LW.Y ?_
  refine LW.pp (PEv.load Tryd.isAgg31 (.tmp rfl) (dp_uses hr)) ?_
  refine LW.Y ?_
  refine LW.pp (PEv.lenS Tryd.underlying31 (.tmp rfl)) ?_
  refine LW.Y ?_
  refine LW.pp (PEv.fa (PEv.neq (.tmp rfl) (.const _)) (rfl)) ?_
  refine LW.pp (PEv.pick_or (.tmp rfl) (fun hp => (by first | exact .const _ | exact .tmp rfl | exact .cond rfl (by first | assumption | simp_all)))) ?_
  refine LW.T ?_
  refine CW.cond_false (.tmp rfl) ?_
  refine CW.skip (KW.then (CW.seq ?_))
  refine CW.draws (by kernel_rfl) (by kernel_rfl) rfl rfl ?_
  refine HW.pp (PEv.move (.tmp rfl)) ?_
  refine HW.pp (PEv.indexAddr' Tryd.underlying46 Tryd.sizeOf33 (j := 0) (.tmp rfl) (.const _) (Nat.le_of_ble_eq_true rfl) ax) ?_
  refine HW.pp (PEv.fieldAddr (off := 1) Tryd.underlying33 rfl rfl Tryd.sizeOf30 rfl (.tmp rfl)) ?_
  refine HW.pp (PEv.loadA Tryd.isAgg30 Tryd.sizeOf30 rfl (.tmp rfl) (dp_par hp)) ?_
  refine HW.c (fun a w _ ha => enter_call0 (.cons (.const _) .nil) (Tryd.en8) a ha) rfl rfl (fun w hu => rwhole_any _ w) ?_
  refine HW.pp (PEv.tr (PEv.eqlA Tryd.eqGuardType30 (Tryd.eqRt _ _) (.tmp rfl) (.tmp rfl)) ((rtB_self _))) ?_
  refine HW.pp (PEv.move (.tmp rfl)) ?_
  refine HW.yp rfl rfl rfl rfl rfl (PEv.move (.tmp rfl)) rfl ?_
  refine HW.yp rfl rfl rfl rfl rfl (PEv.indexAddr' Tryd.underlying46 Tryd.sizeOf33 (j := 1) (.tmp rfl) (.const _) (Nat.le_of_ble_eq_true rfl) ax) rfl ?_
  refine HW.yp rfl rfl rfl rfl rfl (PEv.fieldAddr (off := 1) Tryd.underlying33 rfl rfl Tryd.sizeOf30 rfl (.tmp rfl)) rfl ?_
  refine HW.yp rfl rfl rfl rfl rfl (PEv.loadA Tryd.isAgg30 Tryd.sizeOf30 rfl (.tmp rfl) (dp_par hq)) rfl ?_
  refine HW.yc rfl rfl rfl rfl rfl (fun a w _ ha => enter_call0 (.cons (.const _) .nil) (Tryd.en8) a ha) rfl (fun w hu => rwhole_any _ w) ?_
  refine HW.yp rfl rfl rfl rfl rfl (PEv.tr (PEv.eqlA Tryd.eqGuardType30 (Tryd.eqRt _ _) (.tmp rfl) (.tmp rfl)) ((rtB_self _))) rfl ?_
  refine HW.pp (PEv.pick_and (.tmp rfl) (fun hp => (by first | exact .const _ | exact .tmp rfl | exact .cond rfl (by first | assumption | simp_all)))) ?_
  refine HW.pp (PEv.move (.tmp rfl)) ?_
  refine HW.yp rfl rfl rfl rfl rfl (PEv.move (.tmp rfl)) rfl ?_
  refine HW.yp rfl rfl rfl rfl rfl (PEv.indexAddr' Tryd.underlying46 Tryd.sizeOf33 (j := 1) (.tmp rfl) (.const _) (Nat.le_of_ble_eq_true rfl) ax) rfl ?_
  refine HW.yp rfl rfl rfl rfl rfl (PEv.fieldAddr (off := 3) Tryd.underlying33 rfl rfl Tryd.sizeOf30 rfl (.tmp rfl)) rfl ?_
  refine HW.yp rfl rfl rfl rfl rfl (PEv.loadA Tryd.isAgg30 Tryd.sizeOf30 rfl (.tmp rfl) (dp_est hq)) rfl ?_
  refine HW.yc rfl rfl rfl rfl rfl (fun a w _ ha => enter_call0 (.cons (.const _) .nil) (Tryd.en8) a ha) rfl (fun w hu => rwhole_any _ w) ?_
  refine HW.yp rfl rfl rfl rfl rfl (PEv.tr (PEv.eqlA Tryd.eqGuardType30 (Tryd.eqRt _ _) (.tmp rfl) (.tmp rfl)) ((rtB_self _))) rfl ?_
  refine HW.pp (PEv.pick_and (.tmp rfl) (fun hp => (by first | exact .const _ | exact .tmp rfl | exact .cond rfl (by first | assumption | simp_all)))) ?_
  refine HW.pp (PEv.move (.tmp rfl)) ?_
  refine HW.yp rfl rfl rfl rfl rfl (PEv.move (.tmp rfl)) rfl ?_
  refine HW.yp rfl rfl rfl rfl rfl (PEv.indexAddr' Tryd.underlying46 Tryd.sizeOf33 (j := 2) (.tmp rfl) (.const _) (Nat.le_of_ble_eq_true rfl) ax) rfl ?_
  refine HW.yp rfl rfl rfl rfl rfl (PEv.fieldAddr (off := 1) Tryd.underlying33 rfl rfl Tryd.sizeOf30 rfl (.tmp rfl)) rfl ?_
  refine HW.yp rfl rfl rfl rfl rfl (PEv.loadA Tryd.isAgg30 Tryd.sizeOf30 rfl (.tmp rfl) (dp_par hr)) rfl ?_
  refine HW.yc rfl rfl rfl rfl rfl (fun a w _ ha => enter_call0 (.cons (.const _) .nil) (Tryd.en8) a ha) rfl (fun w hu => rwhole_any _ w) ?_
  refine HW.yp rfl rfl rfl rfl rfl (PEv.tr (PEv.eqlA Tryd.eqGuardType30 (Tryd.eqRt _ _) (.tmp rfl) (.tmp rfl)) ((rtB_self _))) rfl ?_
  refine HW.pp (PEv.pick_and (.tmp rfl) (fun hp => (by first | exact .const _ | exact .tmp rfl | exact .cond rfl (by first | assumption | simp_all)))) ?_
  refine HW.pp (PEv.move (.tmp rfl)) ?_
  refine HW.yp rfl rfl rfl rfl rfl (PEv.move (.tmp rfl)) rfl ?_
  refine HW.yp rfl rfl rfl rfl rfl (PEv.indexAddr' Tryd.underlying46 Tryd.sizeOf33 (j := 2) (.tmp rfl) (.const _) (Nat.le_of_ble_eq_true rfl) ax) rfl ?_
  refine HW.yp rfl rfl rfl rfl rfl (PEv.fieldAddr (off := 5) Tryd.underlying33 rfl rfl Tryd.sizeOf31 rfl (.tmp rfl)) rfl ?_
  refine HW.yp rfl rfl rfl rfl rfl (PEv.load Tryd.isAgg31 (.tmp rfl) (dp_uses hr)) rfl ?_
  refine HW.yp rfl rfl rfl rfl rfl (PEv.indexAddr' Tryd.underlying31 Tryd.sizeOf3 (j := 0) (.tmp rfl) (.const _) (Nat.le_of_ble_eq_true rfl) au) rfl ?_
  refine HW.yp rfl rfl rfl rfl rfl (PEv.load Tryd.isAgg3 (.tmp rfl) (hcu 0 _ rfl)) rfl ?_
  refine HW.yp rfl rfl rfl rfl rfl (PEv.tr (PEv.eql (.tmp rfl) (.const _)) (rfl)) rfl ?_
  refine HW.pp (PEv.pick_and (.tmp rfl) (fun hp => (by first | exact .const _ | exact .tmp rfl | exact .cond rfl (by first | assumption | simp_all)))) ?_
  refine HW.pp (PEv.move (.tmp rfl)) ?_
  refine HW.yp rfl rfl rfl rfl rfl (PEv.move (.tmp rfl)) rfl ?_
  refine HW.yp rfl rfl rfl rfl rfl (PEv.indexAddr' Tryd.underlying46 Tryd.sizeOf33 (j := 2) (.tmp rfl) (.const _) (Nat.le_of_ble_eq_true rfl) ax) rfl ?_
  refine HW.yp rfl rfl rfl rfl rfl (PEv.fieldAddr (off := 0) Tryd.underlying33 rfl rfl Tryd.sizeOf3 rfl (.tmp rfl)) rfl ?_
  refine HW.yp rfl rfl rfl rfl rfl (PEv.load Tryd.isAgg3 (.tmp rfl) (dp_run hr)) rfl ?_
  refine HW.yp rfl rfl rfl rfl rfl (PEv.tr (PEv.eql (.tmp rfl) (.const _)) (rfl)) rfl ?_
  refine HW.pp (PEv.pick_and (.tmp rfl) (fun hp => (by first | exact .const _ | exact .tmp rfl | exact .cond rfl (by first | assumption | simp_all)))) ?_
  refine HW.pp (PEv.assign (.tmp rfl)) ?_
  refine HW.nil ?_
  intro w23 uw23
  have zw23 := uw23.size
  replace hS := hS.up uw23
  replace hp := hp.up uw23
  replace hq := hq.up uw23
  replace hr := hr.up uw23
  replace hr2 := hr2.up uw23
  replace hcu := hcu.up uw23
  refine KW.then (CW.seq ?_)
  refine CW.draws (by kernel_rfl) (by kernel_rfl) rfl rfl ?_
  refine HW.pp (PEv.move (.tmp rfl)) ?_
  refine HW.pp (PEv.tr (PEv.eql (.tmp rfl) (.const _)) (rfl)) ?_
  refine HW.pp (PEv.move (.tmp rfl)) ?_
  refine HW.yp rfl rfl rfl rfl rfl (PEv.fieldAddr (off := 1) Tryd.underlying33 rfl rfl Tryd.sizeOf30 rfl (.tmp rfl)) rfl ?_
  refine HW.yp rfl rfl rfl rfl rfl (PEv.loadA Tryd.isAgg30 Tryd.sizeOf30 rfl (.tmp rfl) (dp_par0 (hS.blk 3 rfl))) rfl ?_
  refine HW.yc rfl rfl rfl rfl rfl (fun a w _ ha => enter_call0 (.cons (.const _) .nil) (Tryd.en8) a ha) rfl (fun w hu => rwhole_any _ w) ?_
  refine HW.yp rfl rfl rfl rfl rfl (PEv.tr (PEv.eqlA Tryd.eqGuardType30 (Tryd.eqRt _ _) (.tmp rfl) (.tmp rfl)) ((rtB_self _))) rfl ?_
  refine HW.pp (PEv.pick_and (.tmp rfl) (fun hp => (by first | exact .const _ | exact .tmp rfl | exact .cond rfl (by first | assumption | simp_all)))) ?_
  refine HW.pp (PEv.move (.tmp rfl)) ?_
  refine HW.yp rfl rfl rfl rfl rfl (PEv.move (.tmp rfl)) rfl ?_
  refine HW.yp rfl rfl rfl rfl rfl (PEv.tr (PEv.eql (.tmp rfl) (.const _)) (rfl)) rfl ?_
  refine HW.pp (PEv.pick_and (.tmp rfl) (fun hp => (by first | exact .const _ | exact .tmp rfl | exact .cond rfl (by first | assumption | simp_all)))) ?_
  refine HW.pp (PEv.move (.tmp rfl)) ?_
  refine HW.yp rfl rfl rfl rfl rfl (PEv.fieldAddr (off := 1) Tryd.underlying33 rfl rfl Tryd.sizeOf30 rfl (.tmp rfl)) rfl ?_
  refine HW.yp rfl rfl rfl rfl rfl (PEv.loadA Tryd.isAgg30 Tryd.sizeOf30 rfl (.tmp rfl) (dp_par0 (hS.blk 4 rfl))) rfl ?_
  refine HW.yc rfl rfl rfl rfl rfl (fun a w _ ha => enter_call0 (.cons (.const _) .nil) (Tryd.en8) a ha) rfl (fun w hu => rwhole_any _ w) ?_
  refine HW.yp rfl rfl rfl rfl rfl (PEv.tr (PEv.eqlA Tryd.eqGuardType30 (Tryd.eqRt _ _) (.tmp rfl) (.tmp rfl)) ((rtB_self _))) rfl ?_
  refine HW.pp (PEv.pick_and (.tmp rfl) (fun hp => (by first | exact .const _ | exact .tmp rfl | exact .cond rfl (by first | assumption | simp_all)))) ?_
  refine HW.pp (PEv.move (.tmp rfl)) ?_
  refine HW.yp rfl rfl rfl rfl rfl (PEv.fieldAddr (off := 0) Tryd.underlying33 rfl rfl Tryd.sizeOf3 rfl (.tmp rfl)) rfl ?_
  refine HW.yp rfl rfl rfl rfl rfl (PEv.load Tryd.isAgg3 (.tmp rfl) ((hS.blk 5 rfl).celln rfl)) rfl ?_
  refine HW.yp rfl rfl rfl rfl rfl (PEv.tr (PEv.eql (.tmp rfl) (.const _)) (rfl)) rfl ?_
  refine HW.pp (PEv.pick_and (.tmp rfl) (fun hp => (by first | exact .const _ | exact .tmp rfl | exact .cond rfl (by first | assumption | simp_all)))) ?_
  refine HW.pp (PEv.move (.tmp rfl)) ?_
  refine HW.yp rfl rfl rfl rfl rfl (PEv.tr (PEv.move (.tmp rfl)) (rfl)) rfl ?_
  refine HW.pp (PEv.pick_and (.tmp rfl) (fun hp => (by first | exact .const _ | exact .tmp rfl | exact .cond rfl (by first | assumption | simp_all)))) ?_
  refine HW.pp (PEv.move (.tmp rfl)) ?_
  refine HW.yp rfl rfl rfl rfl rfl (PEv.move (.tmp rfl)) rfl ?_
  refine HW.yp rfl rfl rfl rfl rfl (PEv.tr (PEv.eql (.tmp rfl) (.const _)) (rfl)) rfl ?_
  refine HW.pp (PEv.pick_and (.tmp rfl) (fun hp => (by first | exact .const _ | exact .tmp rfl | exact .cond rfl (by first | assumption | simp_all)))) ?_
  refine HW.pp (PEv.move (.tmp rfl)) ?_
  refine HW.yp rfl rfl rfl rfl rfl (PEv.move (.tmp rfl)) rfl ?_
  refine HW.yp rfl rfl rfl rfl rfl (PEv.tr (PEv.not (.tmp rfl)) (rfl)) rfl ?_
  refine HW.pp (PEv.pick_and (.tmp rfl) (fun hp => (by first | exact .const _ | exact .tmp rfl | exact .cond rfl (by first | assumption | simp_all)))) ?_
  refine HW.pp (PEv.move (.tmp rfl)) ?_
  refine HW.yp rfl rfl rfl rfl rfl (PEv.move (.tmp rfl)) rfl ?_
  refine HW.yp rfl rfl rfl rfl rfl (PEv.tr (PEv.eql (.tmp rfl) (.const _)) (rfl)) rfl ?_
  refine HW.pp (PEv.pick_and (.tmp rfl) (fun hp => (by first | exact .const _ | exact .tmp rfl | exact .cond rfl (by first | assumption | simp_all)))) ?_
  refine HW.pp (PEv.move (.tmp rfl)) ?_
  refine HW.yp rfl rfl rfl rfl rfl (PEv.move (.tmp rfl)) rfl ?_
  refine HW.yp rfl rfl rfl rfl rfl (PEv.tr (PEv.eql (.tmp rfl) (.const _)) (rfl)) rfl ?_
  refine HW.pp (PEv.pick_and (.tmp rfl) (fun hp => (by first | exact .const _ | exact .tmp rfl | exact .cond rfl (by first | assumption | simp_all)))) ?_
  refine HW.pp (PEv.assign (.tmp rfl)) ?_
  refine HW.nil ?_
  intro w24 uw24
  have zw24 := uw24.size
  replace hS := hS.up uw24
  replace hp := hp.up uw24
  replace hq := hq.up uw24
  replace hr := hr.up uw24
  replace hr2 := hr2.up uw24
  replace hcu := hcu.up uw24
  refine KW.then (CW.seq ?_)
  refine CW.draws (by kernel_rfl) (by kernel_rfl) rfl rfl ?_
  refine HW.pp (PEv.move (.tmp rfl)) ?_
  refine HW.pp (PEv.move (.tmp rfl)) ?_
  refine HW.yp rfl rfl rfl rfl rfl (PEv.move (.tmp rfl)) rfl ?_
  refine HW.pp (PEv.pick_and (.tmp rfl) (fun hp => (by first | exact .const _ | exact .tmp rfl | exact .cond rfl (by first | assumption | simp_all)))) ?_
  refine HW.pp (PEv.move (.tmp rfl)) ?_
  refine HW.yp rfl rfl rfl rfl rfl (PEv.move (.tmp rfl)) rfl ?_
  refine HW.yp rfl rfl rfl rfl rfl (PEv.indexAddr' Tryd.underlying46 Tryd.sizeOf33 (j := 2) (.tmp rfl) (.const _) (Nat.le_of_ble_eq_true rfl) ay) rfl ?_
  refine HW.yp rfl rfl rfl rfl rfl (PEv.fieldAddr (off := 1) Tryd.underlying33 rfl rfl Tryd.sizeOf30 rfl (.tmp rfl)) rfl ?_
  refine HW.yp rfl rfl rfl rfl rfl (PEv.loadA Tryd.isAgg30 Tryd.sizeOf30 rfl (.tmp rfl) (dp_par hr2)) rfl ?_
  refine HW.yc rfl rfl rfl rfl rfl (fun a w _ ha => enter_call0 (.cons (.const _) .nil) (Tryd.en8) a ha) rfl (fun w hu => rwhole_any _ w) ?_
  refine HW.yp rfl rfl rfl rfl rfl (PEv.tr (PEv.eqlA Tryd.eqGuardType30 (Tryd.eqRt _ _) (.tmp rfl) (.tmp rfl)) ((rtB_self _))) rfl ?_
  refine HW.pp (PEv.pick_and (.tmp rfl) (fun hp => (by first | exact .const _ | exact .tmp rfl | exact .cond rfl (by first | assumption | simp_all)))) ?_
  refine HW.pp (PEv.assign (.tmp rfl)) ?_
  refine HW.nil ?_
  intro w25 uw25
  have zw25 := uw25.size
  replace hS := hS.up uw25
  replace hp := hp.up uw25
  replace hq := hq.up uw25
  replace hr := hr.up uw25
  replace hr2 := hr2.up uw25
  replace hcu := hcu.up uw25
  refine KW.then (CW.ret ?_)
  refine KW.ret1 rfl rfl ⟨_, rfl, ?_⟩
  exact ⟨rfl, hS.upd⟩
end Go.Proofs.YtgffaeachbbjoaaDoor
end
section
namespace Go.Wx
theorem mulNW {a b : Rt} (ha : a.ok) (hb : b.ok) : IntKind.i64.wrap (a.n * b.n) = a.n * b.n := by
  have h := mulB ha.num hb.num
  exact wrap_i64_in (by omega) (by omega)
end Go.Wx
namespace Go.Proofs.YtgffaeachbbjoaaDoor
open Go.Wx Go.RowKit
theorem mul1_any (Ba Bb : Nat) (a b : Rt) (w : World) (hBa : Blk w Ba a.cells 30) (hBb : Blk w Bb b.cells 30) (ha : a.ok) (hb : b.ok) : Ret Tryd.prog 26 #[.pointer (some ⟨Ba, 0, none⟩), .pointer (some ⟨Bb, 0, none⟩)] w fun r w' => r = .tuple #[vi (a.n * b.n), vi (a.d * b.d)] ∧ Up w w' := by
  have hW := Up.refl w
  refine Calls_start (n := 20) (m := 9) Tryd.func26 rfl rfl rfl ?_
  refine CW.S (LW.C (LW.C (LW.S ?_)))
  refine CW.vars 8 [⟨4, 6, 1, 4, 7⟩, ⟨5, 7, 3, 5, 9⟩] #[vi 0, vi 0] [.eq (.agg (Rt.cells a)), .eq (.agg (Rt.cells a)), .eq (.agg (Rt.cells b)), .eq (.agg (Rt.cells b)), .pred fun v _ => ∃ B, v = .pointer (some ⟨B, 0, none⟩), .pred fun v _ => ∃ B, v = .pointer (some ⟨B, 0, none⟩), .eq undef, .eq undef] [4, 5] Tryd.zeroValue58 Tryd.sizeOf58 (by kernel_rfl) rfl (by kernel_rfl) (by kernel_rfl) (by kernel_rfl) (by kernel_rfl) (by kernel_rfl) (by kernel_rfl) (by kernel_rfl) (by kernel_rfl) (by decide) (by kernel_rfl) (by kernel_rfl) ?_ ?_ ⟨PhT.eq _ _, PhT.eq _ _, PhT.eq _ _, PhT.eq _ _, PhT.pred fun _ _ _ h _ => h, PhT.pred fun _ _ _ h _ => h, PhT.eq _ _, PhT.eq _ _, trivial⟩ ?_ ?_ ?_ ?_ ?_
  ·intro v hv; simp only [List.mem_cons, List.mem_nil_iff, or_false] at hv; rcases hv with rfl | rfl <;> exact ⟨_, _, _, rfl⟩
  ·intro v hv; simp only [List.mem_cons, List.mem_nil_iff, or_false] at hv; rcases hv with rfl | rfl <;> exact ⟨_, _, _, rfl⟩
  ·intro v hv; simp only [List.mem_cons, List.mem_nil_iff, or_false] at hv; rcases hv with rfl | rfl <;> (intro o ho; cases ho; rfl)
  ·intro v hv; simp only [List.mem_cons, List.mem_nil_iff, or_false] at hv; rcases hv with rfl | rfl
   ·exact fun v W h => ⟨_, h, rfl, (rt_size a).2⟩
   ·exact fun v W h => ⟨_, h, rfl, (rt_size b).2⟩
  ·intro v hv; simp only [List.mem_cons, List.mem_nil_iff, or_false] at hv; rcases hv with rfl | rfl <;> exact fun B W => ⟨B, rfl⟩
  ·intro W hK0
   have hK := (Up.drew w).keepT.trans hK0
   have hBaW := Blk.keepT hBa (T := 58) (by decide) hK
   have hBbW := Blk.keepT hBb (T := 58) (by decide) hK
   refine allL.cons (.inr ⟨rfl, TU.p (PEv.loadA Tryd.isAgg30 Tryd.sizeOf30 rfl (.tmp rfl) (hBaW.agg)) rfl⟩) ?_
   refine allL.cons (.inr ⟨rfl, TU.c (enter_call0 (.cons (.tmp rfl) .nil) (Tryd.en23)) (ofR_any a _ ha) (by rintro _ W1 ⟨rfl, u⟩; exact ⟨u, rfl⟩)⟩) ?_
   refine allL.cons (.inr ⟨rfl, TU.p (PEv.loadA Tryd.isAgg30 Tryd.sizeOf30 rfl (.tmp rfl) (hBbW.agg)) rfl⟩) ?_
   refine allL.cons (.inr ⟨rfl, TU.c (enter_call0 (.cons (.tmp rfl) .nil) (Tryd.en23)) (ofR_any b _ hb) (by rintro _ W1 ⟨rfl, u⟩; exact ⟨u, rfl⟩)⟩) ?_
   refine allL.cons (.inl (by simp)) ?_
   refine allL.cons (.inl (by simp)) ?_
   refine allL.cons (.inl (by simp)) ?_
   refine allL.cons (.inl (by simp)) ?_
   exact allL.nil
  ·intro wT g hU0 hbl hpw hg
   have hU := (Up.drew w).trans hU0
   obtain ⟨B4, e4, z4, hB4⟩ := hbl ⟨4, 6, 1, 4, 7⟩ (by simp)
   obtain ⟨B5, e5, z5, hB5⟩ := hbl ⟨5, 7, 3, 5, 9⟩ (by simp)
   have e7 : g 7 = .agg (Rt.cells a) := hg 1 _ 7 (by decide) rfl rfl
   have e9 : g 9 = .agg (Rt.cells b) := hg 3 _ 9 (by decide) rfl rfl
   replace e4 : g 4 = .pointer (some ⟨B4, 0, none⟩) := e4
   replace e5 : g 5 = .pointer (some ⟨B5, 0, none⟩) := e5
   change LW _ _ _ _ _ _ _ _ ((4, .eq (g 4)) :: (5, .eq (g 5)) :: _) _
   rw [e4, e5]
   dsimp only at hB4 hB5
   rw [e7] at hB4
   rw [e9] at hB5
   replace hB4 : Blk wT B4 a.cells 58 := hB4
   replace hB5 : Blk wT B5 b.cells 58 := hB5
   replace hW := hW.trans hU
   have zT := hU.size
   refine LW.S ?_
   refine CW.draws (by kernel_rfl) (by kernel_rfl) rfl rfl ?_
   refine HW.pp (PEv.fieldAddr (off := 0) Tryd.underlying58 rfl rfl Tryd.sizeOf3 rfl (.tmp rfl)) ?_
   refine HW.pp (PEv.load Tryd.isAgg3 (.tmp rfl) (hB4.celln rfl)) ?_
   refine HW.pp (PEv.fieldAddr (off := 0) Tryd.underlying58 rfl rfl Tryd.sizeOf3 rfl (.tmp rfl)) ?_
   refine HW.pp (PEv.load Tryd.isAgg3 (.tmp rfl) (hB5.celln rfl)) ?_
   refine HW.pp (PEv.mul_w (.tmp rfl) (.tmp rfl)) ?_
   refine HW.pp (PEv.fieldAddr (off := 1) Tryd.underlying58 rfl rfl Tryd.sizeOf3 rfl (.tmp rfl)) ?_
   refine HW.pp (PEv.load Tryd.isAgg3 (.tmp rfl) (hB4.celln rfl)) ?_
   refine HW.pp (PEv.fieldAddr (off := 1) Tryd.underlying58 rfl rfl Tryd.sizeOf3 rfl (.tmp rfl)) ?_
   refine HW.pp (PEv.load Tryd.isAgg3 (.tmp rfl) (hB5.celln rfl)) ?_
   refine HW.pp (PEv.mul_w (.tmp rfl) (.tmp rfl)) ?_
   refine HW.pp (PEv.assign (.tmp rfl)) ?_
   refine HW.pp (PEv.assign (.tmp rfl)) ?_
   refine HW.nil ?_
   intro w1 uw1
   have zw1 := uw1.size
   replace hW := hW.up uw1
   replace hB4 := hB4.up uw1
   replace hB5 := hB5.up uw1
   refine KW.then (CW.ret ?_)
   refine KW.ret2 rfl rfl rfl ⟨_, rfl, ?_⟩
   exact ⟨by rw [mulNW ha hb, ddW ha hb], hW⟩
theorem Mul_any (a b : Rt) (w : World) (ha : a.ok) (hb : b.ok) : Ret Tryd.prog 10 #[.agg a.cells, .agg b.cells] w fun r w' => r = .tuple #[.agg (mkF (a.n * b.n) (a.d * b.d)).1.cells, vi (mkF (a.n * b.n) (a.d * b.d)).2] ∧ Up w w' := by
  obtain ⟨w0, rfl⟩ : ∃ w0, w0 = w := ⟨_, rfl⟩
  have hS := Sep.start no w0
  refine Calls_start (n := 10) (m := 9) Tryd.func10 rfl rfl rfl ?_
  refine CW.S ?_
  refine LW.r (REv.boxA (.tmp rfl)) rfl rfl rfl rfl ?_
  rintro _ w1 ⟨B2, rfl, NB2⟩
  have eB2 := NB2.at_
  have zB2 := NB2.size
  replace hS := hS.addB NB2
  change Wx.Sep _ _ _ [_] at hS
  refine LW.r (REv.boxA (.tmp rfl)) rfl rfl rfl rfl ?_
  rintro _ w2 ⟨B3, rfl, NB3⟩
  have eB3 := NB3.at_
  have zB3 := NB3.size
  replace hS := hS.addB NB3
  change Wx.Sep _ _ _ [_, _] at hS
  refine LW.r (REv.allocA Tryd.zeroValue30) rfl rfl rfl rfl ?_
  rintro _ w3 ⟨B4, rfl, NB4⟩
  have eB4 := NB4.at_
  have zB4 := NB4.size
  replace hS := hS.addB NB4
  change Wx.Sep _ _ _ [_, _, _] at hS
  refine LW.C (LW.S (CW.region ?_))
  refine LW.pp (PEv.makeFunc (.cons (.tmp rfl) (.cons (.tmp rfl) .nil))) ?_
  refine LW.c (enter_call0 (.cons (.tmp rfl) .nil) (Tryd.en21)) rfl rfl rfl rfl (fit_any 26 #[.pointer (some ⟨B2, 0, none⟩), .pointer (some ⟨B3, 0, none⟩)] Tryd.en26 (a.n * b.n) (a.d * b.d) _ (by have h := mulB ha.num hb.num; exact ⟨by omega, by omega⟩) (dd_in ha hb).1 (by have h := dd_in ha hb; exact ⟨by omega, by omega⟩) (fun W u => mul1_any B2 B3 a b W ((hS.blk 0 rfl).up u) ((hS.blk 1 rfl).up u) ha hb)) ?_
  rintro _ w4 ⟨rfl, uw4⟩
  have zw4 := uw4.size
  replace hS := hS.up uw4
  refine LW.pp (PEv.extract (.tmp rfl) rfl) (LW.pp (PEv.extract (.tmp rfl) rfl) ?_)
  refine LW.s (SEv.storeA Tryd.sizeOf30 rfl (.tmp rfl) (.tmp rfl) (Rt.one _) (hS.blk 2 rfl) rfl) rfl rfl rfl ?_
  intro w5 Nw5
  have zw5 := Nw5.size
  replace hS := hS.putB 2 rfl (show Set_ _ w5 _ ((mkF (a.n * b.n) (a.d * b.d)).1.cells) _ from Nw5)
  change Wx.Sep _ _ _ [_, _, _] at hS
  refine LW.A rfl (LW.T (CW.ret ?_))
  refine KW.retAT rfl rfl rfl Tryd.isAgg30 Tryd.sizeOf30 rfl ((hS.blk 2 rfl)).agg ⟨_, rfl, ?_⟩
  exact ⟨rfl, hS.upd⟩
theorem Floor_any (a : Rt) (w : World) (ha : a.ok) : Ret Tryd.prog 9 #[.agg a.cells] w fun r w' => r = vi (a.n / a.d) ∧ Up w w' := by
  obtain ⟨w0, rfl⟩ : ∃ w0, w0 = w := ⟨_, rfl⟩
  have hS := Sep.start no w0
  refine Calls_start (n := 11) (m := 9) Tryd.func9 rfl rfl rfl ?_
  refine CW.S ?_
  refine LW.r (REv.boxA (.tmp rfl)) rfl rfl rfl rfl ?_
  rintro _ w1 ⟨B1, rfl, NB1⟩
  have eB1 := NB1.at_
  have zB1 := NB1.size
  replace hS := hS.addB NB1
  change Wx.Sep _ _ _ [_] at hS
  refine LW.C (LW.S (CW.S ?_))
  refine LW.pp (PEv.loadA Tryd.isAgg30 Tryd.sizeOf30 rfl (.tmp rfl) ((hS.blk 0 rfl).agg)) ?_
  refine LW.c (enter_call0 (.cons (.tmp rfl) .nil) (Tryd.en24)) rfl rfl rfl rfl (validR_any a _ ha) ?_
  rintro _ w2 ⟨rfl, uw2⟩
  have zw2 := uw2.size
  replace hS := hS.up uw2
  refine LW.pp (PEv.not (.tmp rfl)) ?_
  refine LW.T ?_
  refine CW.cond_false (.tmp rfl) ?_
  refine CW.skip (KW.then (CW.S ?_))
  refine LW.pp (PEv.fieldAddr (off := 0) Tryd.underlying30 rfl rfl Tryd.sizeOf3 rfl (.tmp rfl)) ?_
  refine LW.pp (PEv.load Tryd.isAgg3 (.tmp rfl) ((hS.blk 0 rfl).celln rfl)) ?_
  refine LW.pp (PEv.fieldAddr (off := 1) Tryd.underlying30 rfl rfl Tryd.sizeOf3 rfl (.tmp rfl)) ?_
  refine LW.pp (PEv.load Tryd.isAgg3 (.tmp rfl) ((hS.blk 0 rfl).celln rfl)) ?_
  refine LW.c (enter_call0 (.cons (.tmp rfl) (.cons (.tmp rfl) .nil)) (Tryd.en25)) rfl rfl rfl rfl (floor_any a.n a.d _ (by have h1 := ha.num; have h2 := ha.pos; have h3 := ha.den; exact ⟨by omega, by omega, by omega, by omega⟩)) ?_
  rintro _ w3 ⟨rfl, uw3⟩
  have zw3 := uw3.size
  replace hS := hS.up uw3
  refine LW.A rfl (LW.T (CW.ret ?_))
  refine KW.ret1 rfl rfl ⟨_, rfl, ?_⟩
  exact ⟨rfl, hS.upd⟩
end Go.Proofs.YtgffaeachbbjoaaDoor
end
section
namespace Go.Wx
theorem red_one (T : Int) : redF T 1 = rI T := by
  have h := redF_mul (n := T) (d := 1) (by decide)
  have h2 : (redF T 1).d = 1 := by
    show (((1 : Int).natAbs / gcdA T 1 : Nat) : Int) = 1
    unfold gcdA
    rw [show (1 : Int).natAbs = 1 from rfl, Nat.gcd_one_right]
    rfl
  rw [h2, Int.mul_one, Int.mul_one] at h
  exact (show redF T 1 = ⟨(redF T 1).n, (redF T 1).d⟩ from rfl).trans (by rw [h, h2]; rfl)
theorem sortK_filter {α : Type} {key : α → K2} (p : α → Bool) (l : List α) : (sortK key l).filter p = sortK key (l.filter p) :=
  StS.unique ⟨(sortK_sts l).ord.sublist List.filter_sublist, fun k => by
    rw [List.filter_filter, List.filter_filter]
    have h := (sortK_sts (key := key) l).same k
    rw [show (fun x => (key x == k) && p x) = fun x => p x && (key x == k) from funext fun x => Bool.and_comm _ _, ← List.filter_filter, ← List.filter_filter, h]⟩ (sortK_sts _)
theorem rnsF_sort (b : Base) (t c r : Int) : rnsF b t c r = sortK runK ((b.Processes.filter (runP t c)).filter fun x => decide (x.Recipe = r)) := by unfold rnsF runsB; rw [sortK_filter]
theorem els_frF {w w' : World} {B : Nat} {cs : Array Value} {T : TypeId} {ad : Option Addr} {xs : List Fact} (h : Els w ad 19 Fact.cells xs) (hb : Blk w B cs T) (hc : ∀ (i : Nat) (n : Int), cs[i]? ≠ some (vi n)) (f : Fr (fun i => i = B) w w') : Els w' ad 19 Fact.cells xs := fun i x hx => by
  obtain ⟨B', o, e, h1⟩ := h i x hx
  have hne : B' ≠ B := fun e2 => by
    have h2 := h1 0 (vi x.Kind) rfl
    rw [e2] at h2
    have h3 : cs[o + i * 19 + 0]? = some (vi x.Kind) := by
      unfold World.cell? at h2
      rw [show w.heap[B]? = some (.cells cs T (0, 0)) from hb] at h2
      simpa using h2
    exact hc _ _ h3
  exact ⟨B', o, e, fun j v hv => cell_fr (h1 j v hv) f hne⟩
theorem red4 (e : Int) : (redF e 4).d = 1 ∨ (redF e 4).d = 2 ∨ (redF e 4).d = 4 := by
  have h1 : (redF e 4).d = ((4 / gcdA e 4 : Nat) : Int) := rfl
  have h2 : gcdA e 4 ∣ 4 := Nat.gcd_dvd_right _ _
  have h3 := Nat.le_of_dvd (by decide) h2
  have h4 : 0 < gcdA e 4 := gcdA_pos (by decide)
  rw [h1]
  generalize gcdA e 4 = g at *
  have : g = 1 ∨ g = 2 ∨ g = 3 ∨ g = 4 := by omega
  rcases this with rfl | rfl | rfl | rfl
  · exact .inr (.inr rfl)
  · exact .inr (.inl rfl)
  · revert h2; decide
  · exact .inl rfl
def N0 : Value := .slice none 0 0
def cC (p m r t : Value) : Array Value := #[p, m, N0, N0, N0, N0, N0, N0, r, t, N0]
theorem sl0 (w : World) : Sl w N0 19 Fact.cells ([] : List Fact) := Sl.nil w 19 Fact.cells
theorem cC_base {w : World} {p m r t : Value} {P M R T : List Fact} (hp : Sl w p 19 Fact.cells P) (hm : Sl w m 19 Fact.cells M) (hr : Sl w r 19 Fact.cells R) (ht : Sl w t 19 Fact.cells T) : BaseC w (cC p m r t) ⟨P, M, [], [], [], [], [], [], R, T, []⟩ :=
  ⟨_, _, _, _, _, _, _, _, _, _, _, rfl, hp, hm, sl0 w, sl0 w, sl0 w, sl0 w, sl0 w, sl0 w, hr, ht, sl0 w⟩
def setT (T : Int) : Fact := { zeroF with Kind := 10, Version := 1, Recipe := 9, Value := T }
def stS (D E : Int) : Int := if (4 * D - E) / 4 < -2 ∨ 2 < (4 * D - E) / 4 then E + (4 * D - E) / 4 else E
def stE (D : Int) : Nat → Int
  | 0 => 0
  | n + 1 => stS D (stE D n)
def stY (D T : Int) (n : Nat) : Int := T + (4 * D - stE D n) / 4
def stR (D T : Int) (n : Nat) : Fact := exR ((n : Int) + 1) (10 * ((n : Int) + 1)) (250 * (4 * T - stE D n))
def stM (D T : Int) (n : Nat) : Fact := exM ((n : Int) + 1) (10 * ((n : Int) + 1) + 5) (stY D T n)
def stB (D T : Int) (n : Nat) : Base := ⟨(List.range n).map (stR D T), (List.range n).map (stM D T), [], [], [], [], [], [], [], [setT T], []⟩
theorem stE_bd {D : Int} (hD : -1000 ≤ D ∧ D ≤ 1000) : ∀ n, -4000 ≤ 4 * D - stE D n ∧ 4 * D - stE D n ≤ 4000
  | 0 => by show -4000 ≤ 4 * D - 0 ∧ 4 * D - 0 ≤ 4000; omega
  | n + 1 => by
    have h := stE_bd hD n
    show -4000 ≤ 4 * D - stS D (stE D n) ∧ 4 * D - stS D (stE D n) ≤ 4000
    unfold stS
    split <;> omega
def hiE : Nat → Int
  | 0 => 4000
  | n + 1 => max 11 (hiE n - hiE n / 4)
def loE : Nat → Int
  | 0 => 4000
  | n + 1 => max 8 (loE n - (loE n + 3) / 4)
theorem stE_in {D : Int} (hD : -1000 ≤ D ∧ D ≤ 1000) : ∀ n, -loE n ≤ 4 * D - stE D n ∧ 4 * D - stE D n ≤ hiE n
  | 0 => by show -4000 ≤ 4 * D - 0 ∧ 4 * D - 0 ≤ 4000; omega
  | n + 1 => by
    have h := stE_in hD n
    show -(max 8 (loE n - (loE n + 3) / 4)) ≤ 4 * D - stS D (stE D n) ∧ 4 * D - stS D (stE D n) ≤ max 11 (hiE n - hiE n / 4)
    unfold stS
    split <;> omega
theorem stE_end {D : Int} (hD : -1000 ≤ D ∧ D ≤ 1000) : -2 ≤ (4 * D - stE D 30) / 4 ∧ (4 * D - stE D 30) / 4 ≤ 2 := by
  have h := stE_in hD 30
  rw [show loE 30 = 8 by kernel_rfl, show hiE 30 = 11 by kernel_rfl] at h
  omega
theorem stE_stay {D : Int} (hD : -1000 ≤ D ∧ D ≤ 1000) : ∀ k, stE D (30 + k) = stE D 30
  | 0 => rfl
  | k + 1 => by
    show stS D (stE D (30 + k)) = _
    rw [stE_stay hD k]
    have h := stE_end hD
    unfold stS
    rw [if_neg (by omega)]
theorem st_meas {D T : Int} {n k : Nat} (h : k < n) : ((List.range n).map (stM D T)).find? (fun y => decide (y.ID = (k : Int) + 1)) = some (stM D T k) := by
  cases e : ((List.range n).map (stM D T)).find? (fun y => decide (y.ID = (k : Int) + 1)) with
  | none => exact absurd (List.find?_eq_none.1 e (stM D T k) (List.mem_map.2 ⟨k, List.mem_range.2 h, rfl⟩)) (by simp [stM, exM])
  | some x =>
    obtain ⟨j, hj, rfl⟩ := List.mem_map.1 (List.mem_of_find?_eq_some e)
    have h0 := List.find?_some e
    have h1 : (j : Int) + 1 = (k : Int) + 1 := of_decide_eq_true h0
    rw [show j = k by omega]
theorem st_proc {D T : Int} {n k : Nat} (h : k < n) : procB (stB D T n) ((k : Int) + 1) = some (stR D T k) := by
  show ((List.range n).map (stR D T)).find? (fun y => decide (y.ID = (k : Int) + 1)) = _
  cases e : ((List.range n).map (stR D T)).find? (fun y => decide (y.ID = (k : Int) + 1)) with
  | none => exact absurd (List.find?_eq_none.1 e (stR D T k) (List.mem_map.2 ⟨k, List.mem_range.2 h, rfl⟩)) (by simp [stR, exR])
  | some x =>
    obtain ⟨j, hj, rfl⟩ := List.mem_map.1 (List.mem_of_find?_eq_some e)
    have h0 := List.find?_some e
    have h1 : (j : Int) + 1 = (k : Int) + 1 := of_decide_eq_true h0
    rw [show j = k by omega]
theorem st_tar {T tm : Int} (hT : 0 ≤ T ∧ T < 1000) (ht : 0 ≤ tm) : tarF [setT T] 9 tm = T := by
  have e : tgF 9 tm [setT T] = (setT T, true) := by
    show tgStep 9 tm (zeroF, false) (setT T) = _
    exact tg_yes (by rw [show (setT T).Time = 0 from rfl, show (setT T).Recipe = 9 from rfl]; simp [ht])
  unfold tarF
  rw [e, show isVal (setT T).Value = true by unfold isVal setT; simp; omega]
  rfl
theorem st_dev {D T t : Int} {n k : Nat} (hT : 0 ≤ T ∧ T < 1000) (hD : -1000 ≤ D ∧ D ≤ 1000) (h : k < n) (ht : 10 * ((k : Int) + 1) + 5 ≤ t) : devF ((List.range n).map (stM D T)) [setT T] 9 (stR D T k) t = ((4 * D - stE D k) / 4, true) := by
  have hm := st_meas (D := D) (T := T) h
  have hb := stE_bd hD k
  have hn : notCounts (((List.range n).map (stM D T)).find? fun y => decide (y.ID = (stR D T k).ID)) t = false := by
    rw [show (stR D T k).ID = (k : Int) + 1 from rfl, hm]
    unfold notCounts
    have h1 : isVal (stM D T k).Value = true := by unfold isVal stM exM stY; simp; omega
    rw [show ((some (stM D T k)).getD zeroF) = stM D T k from rfl, h1, decide_eq_false (show ¬ t < (stM D T k).Time from by show ¬ t < 10 * ((k : Int) + 1) + 5; omega)]
    rfl
  rw [devF_yes hn, show (stR D T k).ID = (k : Int) + 1 from rfl, hm, show (stR D T k).Time = 10 * ((k : Int) + 1) from rfl, st_tar hT (by omega)]
  show (stY D T k - T, true) = _
  unfold stY
  rw [show T + (4 * D - stE D k) / 4 - T = (4 * D - stE D k) / 4 by omega]
theorem sum_dev {M T : List Fact} {r t d : Int} {x : Fact} (h : devF M T r x t = (d, true)) (s : Int × List Int) : (sumStep M T r t s x).1 = if d < -2 ∨ 2 < d then s.1 + d else s.1 := by
  unfold sumStep
  rw [h]
  by_cases hc : d < -2 ∨ 2 < d
  · rw [if_pos hc, if_pos (by unfold clears; simpa using hc)]
  · rw [if_neg hc, if_neg (by unfold clears; simpa using hc)]
theorem st_sum {D T t : Int} {n : Nat} (hT : 0 ≤ T ∧ T < 1000) (hD : -1000 ≤ D ∧ D ≤ 1000) : ∀ k, k ≤ n → 10 * (k : Int) + 5 ≤ t → (sumF ((List.range n).map (stM D T)) [setT T] 9 t ((List.range k).map (stR D T))).1 = stE D k
  | 0, _, _ => rfl
  | k + 1, h, ht => by
    have ih := st_sum (n := n) (t := t) hT hD k (by omega) (by omega)
    rw [List.range_succ, List.map_append]
    unfold sumF at ih ⊢
    rw [List.foldl_append]
    show (sumStep _ _ _ _ _ (stR D T k)).1 = stS D (stE D k)
    rw [sum_dev (st_dev hT hD (by omega) (by omega)), ih]
    rfl
theorem st_rns (D T : Int) (n : Nat) : rnsF (stB D T n) 4 0 9 = (List.range n).map (stR D T) := by
  rw [rnsF_sort]
  have e1 : ((stB D T n).Processes.filter (runP 4 0)).filter (fun x => decide (x.Recipe = 9)) = (List.range n).map (stR D T) := by
    rw [List.filter_filter]
    refine List.filter_eq_self.2 ?_
    intro x hx
    obtain ⟨k, _, rfl⟩ := List.mem_map.1 hx
    rfl
  rw [e1]
  refine ((StS.refl ?_).eq).symm
  refine List.pairwise_map.2 (List.Pairwise.imp ?_ List.pairwise_lt_range)
  intro a b hab
  refine ltK_not.2 ?_
  simp only [runK, stR, exR]
  omega
theorem st_now {D T : Int} {n : Nat} (hT : 0 ≤ T ∧ T < 1000) (hD : -1000 ≤ D ∧ D ≤ 1000) : (decNow (stB D T n) 4 0 9 (10 * ((n : Int) + 1))).par = parF T (stE D n) := by
  have e : ((rnsF (stB D T n) 4 0 9).filter fun x => decide (x.Time ≤ 10 * ((n : Int) + 1))) = (List.range n).map (stR D T) := by
    rw [st_rns, List.filter_eq_self]
    intro x hx
    obtain ⟨k, hk, rfl⟩ := List.mem_map.1 hx
    have hk := List.mem_range.1 hk
    refine decide_eq_true (show 10 * ((k : Int) + 1) ≤ _ from ?_)
    omega
  unfold decNow
  rw [e]
  show parF (tarF [setT T] 9 _) (sumF ((List.range n).map (stM D T)) [setT T] 9 _ ((List.range n).map (stR D T))).1 = _
  rw [st_tar hT (by omega), st_sum hT hD n (Nat.le_refl _) (by omega)]
theorem par_mid {T E : Int} (h : -40000 ≤ 4 * T - E ∧ 4 * T - E ≤ 40000) : parF T E = redF (4 * T - E) 4 := by
  have e1 : redF (-10000) 1 = ⟨-10000, 1⟩ := by kernel_rfl
  have e2 : redF 10000 1 = ⟨10000, 1⟩ := by kernel_rfl
  have hm := redF_mul (n := 4 * T - E) (d := 4) (by decide)
  have hp := redF_d (n := 4 * T - E) (d := 4) (by decide)
  unfold parF clampF
  rw [e1, e2]
  generalize redF (4 * T - E) 4 = a at *
  generalize 4 * T - E = q at *
  have hd1 : q * a.d ≤ 40000 * a.d := Int.mul_le_mul_of_nonneg_right h.2 (by omega)
  have hd2 : -40000 * a.d ≤ q * a.d := Int.mul_le_mul_of_nonneg_right h.1 (by omega)
  have h1 : ¬ cmpI (a.n * 1) (-10000 * a.d) < 0 := by
    unfold cmpI
    rw [if_neg (by omega)]
    split <;> decide
  have h2 : ¬ 0 < cmpI (a.n * 1) (10000 * a.d) := by
    unfold cmpI
    split
    · decide
    · rw [if_neg (by omega)]; decide
  rw [if_neg h1, if_neg h2]
theorem st_des {D T : Int} {n : Nat} (hT : 0 ≤ T ∧ T < 1000) (hD : -1000 ≤ D ∧ D ≤ 1000) : ∃ x : Dec, (desF (stB D T (n + 1)) 4 0 9).find? (fun d => decide (d.run = (n : Int) + 1)) = some x ∧ x.par = parF T (stE D n) := by
  have hg : ∀ k, k < n + 1 → (desF (stB D T (n + 1)) 4 0 9)[k]? = some { decF (stB D T (n + 1)) 4 0 9 (stR D T k).Time ((rnsF (stB D T (n + 1)) 4 0 9).take k) with run := (stR D T k).ID } := fun k hk => desF_at (by rw [st_rns, List.getElem?_map, List.getElem?_range hk]; rfl)
  cases e : (desF (stB D T (n + 1)) 4 0 9).find? (fun d => decide (d.run = (n : Int) + 1)) with
  | none => exact absurd (List.find?_eq_none.1 e _ (List.mem_of_getElem? (hg n (Nat.lt_succ_self _)))) (by simp [stR, exR])
  | some x =>
    refine ⟨x, rfl, ?_⟩
    obtain ⟨k, hk⟩ := List.mem_iff_getElem?.1 (List.mem_of_find?_eq_some e)
    have hkl : k < n + 1 := by
      have h1 := (List.getElem?_eq_some_iff.1 hk).1
      rw [desF_len, st_rns] at h1
      simpa using h1
    have hx := Option.some.inj (hk.symm.trans (hg k hkl))
    have h0 := List.find?_some e
    have h1 : x.run = (n : Int) + 1 := of_decide_eq_true h0
    have h2 : x.run = (k : Int) + 1 := by rw [hx]; rfl
    have hkn : k = n := by omega
    rw [hkn] at hx
    rw [hx]
    have e3 : (rnsF (stB D T (n + 1)) 4 0 9).take n = (List.range n).map (stR D T) := by
      rw [st_rns, ← List.map_take, List.take_range, Nat.min_eq_left (Nat.le_succ _)]
    rw [e3]
    show parF (tarF [setT T] 9 (10 * ((n : Int) + 1))) (sumF ((List.range (n + 1)).map (stM D T)) [setT T] 9 (10 * ((n : Int) + 1)) ((List.range n).map (stR D T))).1 = _
    rw [st_tar hT (by omega), st_sum hT hD n (Nat.le_succ _) (by omega)]
theorem red250 (q : Int) : redF (250 * q) 1000 = redF q 4 := redF_eq (by decide) (by decide) (by omega)
theorem cC_no (p m r t : Value) (hp : ∀ n, p ≠ vi n) (hm : ∀ n, m ≠ vi n) (hr : ∀ n, r ≠ vi n) (ht : ∀ n, t ≠ vi n) (i : Nat) (n : Int) : (cC p m r t)[i]? ≠ some (vi n) := by
  unfold cC N0
  match i with
  | 0 => simpa using hp n
  | 1 => simpa using hm n
  | 8 => simpa using hr n
  | 9 => simpa using ht n
  | 2 | 3 | 4 | 5 | 6 | 7 | 10 => simp
  | i + 11 => simp
theorem rI_q (D : Int) : rI D = redF (4 * D) 4 := by rw [← red_one, redF1]
theorem floor_q (q : Int) : (redF q 4).n / (redF q 4).d = q / 4 := by
  have h1 := redF_mul (n := q) (d := 4) (by decide)
  have h2 := redF_d (n := q) (d := 4) (by decide)
  rcases red4 q with h | h | h <;> rw [h] at h1 ⊢ <;> omega
theorem floor_st (D T : Int) (k : Nat) : (4 * T - stE D k + 4 * D) / 4 = stY D T k := by unfold stY; omega
theorem mul_q {q : Int} (h : (250 * q).natAbs ≤ 1000000000) : mkF ((redF q 4).n * (rI 1000).n) ((redF q 4).d * (rI 1000).d) = (rI (250 * q), 0) := by
  have h1 := redF_mul (n := q) (d := 4) (by decide)
  have h2 := redF_d (n := q) (d := 4) (by decide)
  have e : (redF q 4).n * (rI 1000).n * 1 = 250 * q * ((redF q 4).d * (rI 1000).d) := by
    show (redF q 4).n * 1000 * 1 = 250 * q * ((redF q 4).d * 1)
    rw [Int.mul_one, Int.mul_one, Int.mul_assoc, ← h1]; omega
  have hd : 0 < (redF q 4).d * (rI 1000).d := by show 0 < (redF q 4).d * 1; omega
  rw [mkF_fits (fits_eq hd (by decide) e (fits_small h (by decide))), redF_eq hd (by decide) e, red_one]
theorem rI_ok {n : Int} (h : n.natAbs ≤ 1000000000) : (rI n).ok := by rw [← red_one]; exact red1_ok h
theorem st_len (D T : Int) (k : Nat) : (stB D T k).Processes.length = k ∧ (stB D T k).Measures.length = k ∧ (stB D T k).Resets.length = 0 ∧ (stB D T k).Targets.length = 1 := by
  unfold stB; simp
theorem st_exp {D T : Int} {n : Nat} (hT : 0 ≤ T ∧ T < 1000) (hD : -1000 ≤ D ∧ D ≤ 1000) : (expF (stB D T (n + 1)) ((n : Int) + 1)).2 = (true, 0) := by
  have hb := stE_bd hD n
  obtain ⟨x, hx, hp⟩ := st_des (n := n) hT hD
  unfold expF
  rw [st_proc (Nat.lt_succ_self n)]
  dsimp only
  show (match (desF (stB D T (n + 1)) 4 0 9).find? fun d => decide (d.run = (n : Int) + 1) with
    | none => (dec0, false, 200)
    | some d => (d, decide ((mkF (stR D T n).Value 1000).2 = 0) && rtB (mkF (stR D T n).Value 1000).1 d.par, 0) : Dec × Bool × Int).2 = _
  rw [hx]
  dsimp only
  have e : (stR D T n).Value = 250 * (4 * T - stE D n) := rfl
  have hf : mkF (stR D T n).Value 1000 = (redF (4 * T - stE D n) 4, 0) := by
    rw [e, mkF_fits (fits_small (by omega) (by decide)), red250]
  rw [hf, hp, par_mid (by omega), rtB_self]
  rfl
theorem st_last {D T : Int} {k : Nat} (hD : -1000 ≤ D ∧ D ≤ 1000) {last : Rt} (h : 0 < k → last = redF (4 * T - stE D (k - 1)) 4) : (decide ((31 : Int) < (k : Int) + 1) && !rtB (redF (4 * T - stE D k) 4) last) = false := by
  by_cases hk : (31 : Int) < (k : Int) + 1
  · have h1 : stE D k = stE D (k - 1) := by
      have e1 := stE_stay hD (k - 30)
      have e2 := stE_stay hD (k - 1 - 30)
      rw [show 30 + (k - 30) = k by omega] at e1
      rw [show 30 + (k - 1 - 30) = k - 1 by omega] at e2
      rw [e1, e2]
    rw [h (by omega), h1, rtB_self]
    simp
  · rw [decide_eq_false hk]; rfl
theorem st_band {D T : Int} {k : Nat} (hD : -1000 ≤ D ∧ D ≤ 1000) : (decide ((30 : Int) < (k : Int) + 1) && (decide (2 < stY D T k - T) || decide (2 < T - stY D T k))) = false := by
  by_cases hk : (30 : Int) < (k : Int) + 1
  · have e1 := stE_stay hD (k - 30)
    rw [show 30 + (k - 30) = k by omega] at e1
    have h := stE_end hD
    unfold stY
    rw [e1, decide_eq_false (show ¬ 2 < T + (4 * D - stE D 30) / 4 - T by omega), decide_eq_false (show ¬ 2 < T - (T + (4 * D - stE D 30) / 4) by omega)]
    simp
  · rw [decide_eq_false hk]; rfl
theorem st_val {D T : Int} {n : Nat} (hT : 0 ≤ T ∧ T < 1000) (hD : -1000 ≤ D ∧ D ≤ 1000) : ∀ f ∈ (stB D T n).Processes, inI f.Value := fun f hf => by
  obtain ⟨k, _, rfl⟩ := List.mem_map.1 hf
  have hb := stE_bd hD k
  have e : (stR D T k).Value = 250 * (4 * T - stE D k) := rfl
  rw [e]
  exact ⟨by omega, by omega⟩
end Go.Wx
namespace Go.Proofs.YtgffaeachbbjoaaDoor
open Go.Wx Go.RowKit
end Go.Proofs.YtgffaeachbbjoaaDoor
end
section
namespace Go.Proofs.YtgffaeachbbjoaaDoor
open Go.Wx Go.RowKit
set_option maxHeartbeats 4000000 in
theorem ControlSettles_any (disturbance target : Int) (w : World) (hdis : inI disturbance) (htar : inI target) : Ret Tryd.prog 3 #[vi disturbance, vi target] w fun r w' => r = .bool true ∧ Up w w' := by
  obtain ⟨w0, rfl⟩ : ∃ w0, w0 = w := ⟨_, rfl⟩
  have hS := Sep.start no w0
  refine Calls_start (n := 131) (m := 9) Tryd.func3 rfl rfl rfl ?_
  refine CW.S (LW.C (LW.S (CW.region ?_)))
  refine LW.c (enter_call0 .nil (Tryd.en4)) rfl rfl rfl rfl (sane_any _) ?_
  rintro _ w1 ⟨rfl, uw1⟩
  have zw1 := uw1.size
  replace hS := hS.up uw1
  refine LW.A rfl (LW.S (CW.region (LW.M rfl ?_)))
  refine LW.c (enter_call0 (.cons (.tmp rfl) (.cons (.const _) .nil)) (Tryd.en5)) rfl rfl rfl rfl (pick_any _ _ _ (by decide)) ?_
  rintro _ w2 ⟨rfl, uw2⟩
  have zw2 := uw2.size
  replace hS := hS.up uw2
  have hpd := pick_range (c := disturbance) (n := 2001) hdis (by decide)
  obtain ⟨pd, epd⟩ : ∃ pd, pd = pickI disturbance 2001 := ⟨_, rfl⟩
  rw [← epd] at hpd ⊢
  refine LW.pp (PEv.sub (.tmp rfl) (.const _) (by omega) (by omega)) ?_
  refine LW.A rfl (LW.S ?_)
  obtain ⟨D, eD⟩ : ∃ D, D = pd - 1000 := ⟨_, rfl⟩
  rw [← eD]
  have hD : -1000 ≤ D ∧ D ≤ 1000 := by omega
  refine CW.region (LW.M rfl ?_)
  refine LW.c (enter_call0 (.cons (.tmp rfl) (.cons (.const _) .nil)) (Tryd.en5)) rfl rfl rfl rfl (pick_any _ _ _ (by decide)) ?_
  rintro _ w3 ⟨rfl, uw3⟩
  have zw3 := uw3.size
  replace hS := hS.up uw3
  have hT := pick_range (c := target) (n := 1000) htar (by decide)
  obtain ⟨T, eT⟩ : ∃ T, T = pickI target 1000 := ⟨_, rfl⟩
  rw [← eT] at hT ⊢
  refine LW.A rfl (LW.S (CW.region (LW.M rfl ?_)))
  refine LW.pp (PEv.build (cs := (setT T).cells) Tryd.underlying25 Tryd.zeroValue25 Tryd.places25 (.cons (.const _) (.cons (.const _) (.cons (.const _) (.cons (.tmp rfl) .nil)))) (by kernel_rfl)) ?_
  refine LW.r (REv.buildSlice (xs := [setT T]) (enc := Fact.cells) (mk := fun f : Fact => .agg f.cells) Tryd.underlying26 Tryd.sizeOf25 Tryd.zeroValue25 rfl (by decide) (fun _ => rfl) (fun _ => rfl) (.cons (.tmp rfl) .nil) rfl) rfl rfl rfl rfl ?_
  rintro _ w4 ⟨B27, cB27, rfl, NB27, yB27, xB27⟩
  have eB27 := NB27.at_
  have zB27 := NB27.size
  replace hS := hS.up NB27.up
  have hE27 := xB27
  refine LW.pp (PEv.build (cs := cC N0 N0 N0 (.slice (some ⟨B27, 0, none⟩) 1 1)) Tryd.underlying28 Tryd.zeroValue28 Tryd.places28 (.cons (.tmp rfl) .nil) (by kernel_rfl)) ?_
  refine LW.r (REv.allocA Tryd.zeroValue28) rfl rfl rfl rfl ?_
  rintro _ w5 ⟨B6, rfl, MB6⟩
  refine LW.s (SEv.storeA Tryd.sizeOf28 rfl (.tmp rfl) (.tmp rfl) (by simp [cC, N0, Value.oneCell']) MB6.blk rfl) rfl rfl rfl ?_
  intro w6 LB6
  have NB6 := MB6.set LB6
  clear LB6 MB6
  have eB6 := NB6.at_
  have zB6 := NB6.size
  replace hS := hS.addB NB6
  change Wx.Sep _ _ _ [_] at hS
  refine LW.S ?_
  have hE27u := hE27.up NB6.up
  have hUL := hS.upd
  obtain ⟨wE, ewE⟩ : ∃ W, W = w6 := ⟨_, rfl⟩
  have hS9 := hS
  rw [← ewE] at hS9
  have hE9 := hE27
  have hsz6 : w0.heap.size ≤ B6 := (hS.foot 0 rfl B6 rfl).resolve_left (fun h => h)
  have hTf : ∀ W, Fr (fun i => i = B6) wE W → Els W (some ⟨B27, 0, none⟩) 19 Fact.cells [setT T] := fun W f => els_frF (by rw [ewE]; exact hE27u) (hS9.blk 0 rfl) (cC_no _ _ _ _ (by simp [N0]) (by simp [N0]) (by simp [N0]) (by simp)) f
  have hUp : ∀ W, Fr (fun i => i = B6) wE W → Up w0 W := fun W f => by rw [ewE] at f; exact up_fr hUL f hsz6
  replace hS : Wx.Sep (fun i => i = B6) wE w6 [aBlk B6 (cC N0 N0 N0 (.slice (some ⟨B27, 0, none⟩) 1 1)) 28] := by rw [ewE]; exact Sep.cons (hS.blk 0 rfl) (fun _ h => h) (Sep.start _ _) (by simp)
  replace hS := hS.add (Up.refl _) (A' := aOwn 25 19 Fact.cells (N0) ([] : List Fact)) (OwnS.nil _ _ _ _ _) (by intro i h; cases h)
  replace hS := hS.add (Up.refl _) (A' := aOwn 25 19 Fact.cells (N0) ([] : List Fact)) (OwnS.nil _ _ _ _ _) (by intro i h; cases h)
  change Wx.Sep _ _ _ [_, _, _] at hS
  refine CW.region ?_
  refine LW.pp (PEv.build (cs := rz.cells) Tryd.underlying30 Tryd.zeroValue30 Tryd.places30 .nil rfl) ?_
  refine LW.r (REv.allocA Tryd.zeroValue30) rfl rfl rfl rfl ?_
  rintro _ w7 ⟨B7, rfl, MB7⟩
  refine LW.s (SEv.storeA Tryd.sizeOf30 rfl (.tmp rfl) (.tmp rfl) (Rt.one _) MB7.blk rfl) rfl rfl rfl ?_
  intro w8 LB7
  have NB7 := MB7.set LB7
  clear LB7 MB7
  have eB7 := NB7.at_
  have zB7 := NB7.size
  replace hS := hS.addB NB7
  change Wx.Sep _ _ _ [_, _, _, _] at hS
  refine LW.S (CW.S (LW.C (LW.T (CW.block ?_))))
  refine CW.loopB (σ := Nat × Go.Value × Go.Value × Rt) (fun s w => (s.1 ≤ 36) ∧ (0 < s.1 → s.2.2.2 = redF (4 * T - stE D (s.1 - 1)) 4) ∧ (Wx.Sep (fun i => i = B6) wE w [aBlk B6 (cC s.2.1 s.2.2.1 N0 (.slice (some ⟨B27, 0, none⟩) 1 1)) 28, aOwn 25 19 Fact.cells (s.2.1) ((List.range s.1).map (stR D T)), aOwn 25 19 Fact.cells (s.2.2.1) ((List.range s.1).map (stM D T)), aBlk B7 (Rt.cells s.2.2.2) 30])) (fun s => [(8, .eq (vi ((s.1 : Int) + 1)))]) ([(0, .eq _), (1, .eq _), (5, .eq _), (6, .eq _), (7, .eq _)]) (fun s => 36 - s.1) (0, N0, N0, rz) ?_ ⟨rfl, rfl, rfl, rfl, rfl, rfl, trivial⟩ ?_
  ·exact ⟨Nat.zero_le _, (fun h => absurd h (Nat.lt_irrefl 0)), hS⟩
  ·rintro ⟨k, vp, vm, last⟩ w9 ⟨hk, hl, hS⟩
   dsimp only at hk hl hS
   change CW _ _ _ _ _ _ _ ([(8, .eq (vi ((k : Int) + 1)))] ++ _) _
   refine CW.seq (CW.S (LW.M rfl ?_))
   refine LW.pp (PEv.leq (.tmp rfl) (.const _)) ?_
   refine LW.T ?_
   refine CW.cond (.tmp rfl) (fun h31 => ?_) (fun h31 => ?_)
   ·first | replace h31 := dT h31 | replace h31 := dF h31 | skip
    refine CW.skip (KW.then (CW.seq (CW.block (CW.seq ?_))))
    have hlen := st_len D T k
    have hk36 : k < 36 := by omega
    have hgb := stE_bd hD k
    refine CW.region ?_
    refine LW.pp (PEv.loadA Tryd.isAgg28 Tryd.sizeOf28 rfl (.tmp rfl) ((hS.blk 0 rfl).agg)) ?_
    refine LW.M rfl ?_
    refine LW.pp (PEv.vl (v' := vi (10 * ((k : Int) + 1))) (PEv.mul_w (.const _) (.tmp rfl)) (congrArg (Go.Value.int .i64) (wrap_i64_in (by omega) (by omega)))) ?_
    refine LW.c (enter_call0 (.cons (.tmp rfl) (.cons (.const _) (.cons (.const _) (.cons (.const _) (.cons (.tmp rfl) .nil))))) (Tryd.en6)) rfl rfl rfl rfl (Decide_any _ (stB D T k) 4 0 9 (10 * ((k : Int) + 1)) _ (cC_base ((hS.own 1 rfl).sl (fun _ => rfl)) ((hS.own 2 rfl).sl (fun _ => rfl)) (sl0 _) ⟨_, _, rfl, hTf _ hS.fr⟩) (by omega) (by omega) (by omega) (by omega)) ?_
    rintro _ w10 ⟨_, rfl, ⟨adp, cpp, rfl, hOp_⟩, uw10⟩
    have zw10 := uw10.size
    replace hS := hS.up uw10
    clear hOp_
    refine LW.M rfl (LW.pp (PEv.extract (.tmp rfl) rfl) (LW.pp (PEv.extract (.tmp rfl) rfl) ?_))
    refine LW.r (REv.allocA Tryd.zeroValue33) rfl rfl rfl rfl ?_
    rintro _ w11 ⟨B9, rfl, MB9⟩
    refine LW.s (SEv.storeA Tryd.sizeOf33 rfl (.tmp rfl) (.tmp rfl) (DP.one _) MB9.blk rfl) rfl rfl rfl ?_
    intro w12 LB9
    have NB9 := MB9.set LB9
    clear LB9 MB9
    have eB9 := NB9.at_
    have zB9 := NB9.size
    replace hS := hS.addB NB9
    change Wx.Sep _ _ _ [_, _, _, _, _] at hS
    refine LW.A rfl (LW.S (CW.seq ?_))
    have hpar : (⟨decNow (stB D T k) 4 0 9 (10 * ((k : Int) + 1)), adp, cpp⟩ : DP).dec.par = (redF (4 * T - stE D k) 4) := (st_now hT hD).trans (par_mid (by omega))
    refine CW.region (LW.M rfl ?_)
    refine LW.pp (PEv.fa (PEv.neq (.tmp rfl) (.const _)) (rfl)) ?_
    refine LW.T ?_
    refine CW.cond_false (.tmp rfl) ?_
    refine CW.skip (KW.then (CW.seq (CW.S (LW.M rfl ?_))))
    refine LW.pp (PEv.gtr (.tmp rfl) (.const _)) ?_
    refine LW.M rfl ?_
    refine LW.g rfl rfl rfl rfl rfl rfl rfl (fun hc => PEv.fieldAddr (off := 1) Tryd.underlying33 rfl rfl Tryd.sizeOf30 rfl (.tmp rfl)) ?_
    refine LW.g rfl rfl rfl rfl rfl rfl rfl (fun hc => PEv.loadA Tryd.isAgg30 Tryd.sizeOf30 rfl (by first | exact .tmp rfl | exact .cond rfl (by first | assumption | simp_all)) ((show AggAt _ _ _ (redF (4 * T - stE D k) 4).cells from by rw [← hpar]; exact dp_par0 (p := (⟨decNow (stB D T k) 4 0 9 (10 * ((k : Int) + 1)), adp, cpp⟩ : DP)) (hS.blk 4 rfl)))) ?_
    refine LW.g rfl rfl rfl rfl rfl rfl rfl (fun hc => PEv.loadA Tryd.isAgg30 Tryd.sizeOf30 rfl (.tmp rfl) ((hS.blk 3 rfl).agg)) ?_
    refine LW.g rfl rfl rfl rfl rfl rfl rfl (fun hc => PEv.neqA Tryd.eqGuardType30 (Tryd.eqRt _ _) (by first | exact .tmp rfl | exact .cond rfl (by first | assumption | simp_all)) (by first | exact .tmp rfl | exact .cond rfl (by first | assumption | simp_all))) ?_
    refine LW.pp (PEv.fa (PEv.pick_and (.tmp rfl) (fun hp => (by first | exact .const _ | exact .tmp rfl | exact .cond rfl (by first | assumption | (rw [hp]; rfl) | (rw [hc, hp]; rfl) | simp_all)))) (st_last hD hl)) ?_
    refine LW.T ?_
    refine CW.cond_false (.tmp rfl) ?_
    refine CW.skip (KW.then (CW.S ?_))
    refine LW.pp (PEv.fieldAddr (off := 1) Tryd.underlying33 rfl rfl Tryd.sizeOf30 rfl (.tmp rfl)) ?_
    refine LW.pp (PEv.loadA Tryd.isAgg30 Tryd.sizeOf30 rfl (.tmp rfl) ((show AggAt _ _ _ (redF (4 * T - stE D k) 4).cells from by rw [← hpar]; exact dp_par0 (p := (⟨decNow (stB D T k) 4 0 9 (10 * ((k : Int) + 1)), adp, cpp⟩ : DP)) (hS.blk 4 rfl)))) ?_
    refine LW.s (SEv.storeA Tryd.sizeOf30 rfl (.tmp rfl) (.tmp rfl) (Rt.one _) (hS.blk 3 rfl) rfl) rfl rfl rfl ?_
    intro w13 Nw13
    have zw13 := Nw13.size
    replace hS := hS.putB 3 rfl (show Set_ _ w13 _ (Rt.cells (redF (4 * T - stE D k) 4)) _ from Nw13)
    change Wx.Sep _ _ _ [_, _, _, _, _] at hS
    refine LW.S ?_
    refine CW.boxU 11 8 9 6 11 59 (rz.cells) [.eq (.pointer (some ⟨B9, 1, none⟩)), .eq (.agg (redF (4 * T - stE D k) 4).cells), .eq (vi D), .eq (.agg (rI D).cells), .eq (.tuple #[.agg (redF (4 * T - stE D k + 4 * D) 4).cells, vi 0]), .eq (.tuple #[.agg (redF (4 * T - stE D k + 4 * D) 4).cells, vi 0]), .eq (.agg (redF (4 * T - stE D k + 4 * D) 4).cells), .eq (vi 0), .pred fun v _ => ∃ B, v = .pointer (some ⟨B, 0, none⟩), .eq (undef), .eq (vi 0)] [12] Tryd.zeroValue30 Tryd.sizeOf30 (by kernel_rfl) rfl (by kernel_rfl) (by kernel_rfl) (by kernel_rfl) (by kernel_rfl) (by kernel_rfl) (by kernel_rfl) (by kernel_rfl) rfl rfl ⟨_, _, _, rfl⟩ _ rfl ⟨_, _, _, rfl⟩ ⟨PhT.eq _ _, PhT.eq _ _, PhT.eq _ _, PhT.eq _ _, PhT.eq _ _, PhT.eq _ _, PhT.eq _ _, PhT.eq _ _, PhT.pred fun _ _ _ h _ => h, PhT.eq _ _, PhT.eq _ _, trivial⟩ rfl (fun v W h => ⟨_, h, rfl, Rt.one _⟩) (fun B W => ⟨B, rfl⟩) ?_ ?_
    ·intro W hU0
     have hU := (Up.drew w13).trans hU0
     have hSW := hS.up hU
     refine allL.cons (.inr ⟨rfl, TU.p (PEv.fieldAddr (off := 1) Tryd.underlying33 rfl rfl Tryd.sizeOf30 rfl (.tmp rfl)) rfl⟩) ?_
     refine allL.cons (.inr ⟨rfl, TU.p (PEv.loadA Tryd.isAgg30 Tryd.sizeOf30 rfl (.tmp rfl) ((show AggAt _ _ _ (redF (4 * T - stE D k) 4).cells from by rw [← hpar]; exact dp_par0 (p := (⟨decNow (stB D T k) 4 0 9 (10 * ((k : Int) + 1)), adp, cpp⟩ : DP)) (hSW.blk 4 rfl)))) rfl⟩) ?_
     refine allL.cons (.inr ⟨rfl, TU.p (PEv.move (.tmp rfl)) rfl⟩) ?_
     refine allL.cons (.inr ⟨rfl, TU.c (enter_call0 (.cons (.tmp rfl) .nil) (Tryd.en8)) (rwhole_any D W) (by rintro _ W1 ⟨rfl, u⟩; exact ⟨u, rfl⟩)⟩) ?_
     refine allL.cons (.inr ⟨rfl, TU.c (enter_call0 (.cons (.tmp rfl) (.cons (.tmp rfl) .nil)) (Tryd.en7)) (Add_any (redF (4 * T - stE D k) 4) (rI D) W (redQ_ok (by omega)) (rI_ok (by omega))) (by rintro _ W1 ⟨rfl, u_⟩; rw [rI_q, addQ_mk (by omega)]; exact ⟨u_, rfl⟩)⟩) ?_
     refine allL.cons (.inr ⟨rfl, TU.p (PEv.move (.tmp rfl)) rfl⟩) ?_
     refine allL.cons (.inr ⟨rfl, TU.p (PEv.extract (.tmp rfl) rfl) rfl⟩) ?_
     refine allL.cons (.inr ⟨rfl, TU.p (PEv.extract (.tmp rfl) rfl) rfl⟩) ?_
     refine allL.cons (.inl (.inl rfl)) ?_
     refine allL.cons (.inl (.inr rfl)) ?_
     refine allL.cons (.inr ⟨rfl, TU.p (PEv.assign (.tmp rfl)) rfl⟩) ?_
     exact allL.nil
    ·intro w14 B11 g hU0 zB11_ hB11 hg
     have hU := (Up.drew w13).trans hU0
     have zw14 := hU.size
     have zdr : w13.drew.heap.size = w13.heap.size := rfl
     have g59_ : g 59 = .agg (redF (4 * T - stE D k + 4 * D) 4).cells := hg 6 _ 59 (by decide) rfl rfl
     have g12_ : g 12 = vi 0 := hg 10 _ 12 (by decide) rfl rfl
     rw [g59_] at hB11
     replace hB11 : Blk w14 B11 (Rt.cells (redF (4 * T - stE D k + 4 * D) 4)) 30 := hB11
     change LW _ _ _ _ _ _ _ _ ((11, _) :: (12, .eq (g 12)) :: _) _
     rw [g12_]
     clear hg
     replace hS := (hS.up (Up.drew _)).add hU0 (A' := aBlk B11 (Rt.cells (redF (4 * T - stE D k + 4 * D) 4)) 30) hB11 (fun i (e : i = B11) => by omega)
     change Wx.Sep _ _ _ [_, _, _, _, _, _] at hS
     clear hB11
     refine LW.S (CW.region ?_)
     refine LW.pp (PEv.loadA Tryd.isAgg30 Tryd.sizeOf30 rfl (.tmp rfl) ((hS.blk 5 rfl).agg)) ?_
     refine LW.c (enter_call0 (.cons (.tmp rfl) .nil) (Tryd.en9)) rfl rfl rfl rfl (Floor_any (redF (4 * T - stE D k + 4 * D) 4) _ (redQ_ok (by omega))) ?_
     rintro _ w15 ⟨rfl, uw15⟩
     have zw15 := uw15.size
     replace hS := hS.up uw15
     rw [floor_q, floor_st]
     refine LW.A rfl (LW.S (CW.seq ?_))
     have hyb : -10000 ≤ stY D T k ∧ stY D T k ≤ 10000 := by unfold stY; omega
     refine CW.region (LW.M rfl ?_)
     refine LW.pp (PEv.fa (PEv.neq (.tmp rfl) (.const _)) (rfl)) ?_
     refine LW.M rfl ?_
     refine LW.Y ?_
     refine LW.M rfl ?_
     refine LW.Y ?_
     refine LW.pp (PEv.gtr (.tmp rfl) (.const _)) ?_
     refine LW.Y ?_
     refine LW.M rfl ?_
     refine LW.g rfl rfl rfl rfl rfl rfl rfl (fun hc => PEv.move (.tmp rfl)) ?_
     refine LW.g rfl rfl rfl rfl rfl rfl rfl (fun hc => PEv.move (.tmp rfl)) ?_
     refine LW.g rfl rfl rfl rfl rfl rfl rfl (fun hc => PEv.sub (by first | exact .tmp rfl | exact .cond rfl (by first | assumption | simp_all)) (by first | exact .tmp rfl | exact .cond rfl (by first | assumption | simp_all)) (by omega) (by omega)) ?_
     refine LW.g rfl rfl rfl rfl rfl rfl rfl (fun hc => PEv.gtr (by first | exact .tmp rfl | exact .cond rfl (by first | assumption | simp_all)) (.const _)) ?_
     refine LW.g rfl rfl rfl rfl rfl rfl rfl (fun hc => PEv.move (by first | exact .tmp rfl | exact .cond rfl (by first | assumption | simp_all))) ?_
     refine LW.gg rfl rfl rfl rfl rfl rfl rfl (fun hc => PEv.move (.tmp rfl)) ?_
     refine LW.gg rfl rfl rfl rfl rfl rfl rfl (fun hc => PEv.move (.tmp rfl)) ?_
     refine LW.gg rfl rfl rfl rfl rfl rfl rfl (fun hc => PEv.sub (by first | exact .tmp rfl | exact .cond rfl (by first | assumption | simp_all)) (by first | exact .tmp rfl | exact .cond rfl (by first | assumption | simp_all)) (by omega) (by omega)) ?_
     refine LW.gg rfl rfl rfl rfl rfl rfl rfl (fun hc => PEv.gtr (by first | exact .tmp rfl | exact .cond rfl (by first | assumption | simp_all)) (.const _)) ?_
     refine LW.g rfl rfl rfl rfl rfl rfl rfl (fun hc => PEv.pick_or (by first | exact .tmp rfl | exact .cond rfl (by first | assumption | simp_all)) (fun hp => (by first | exact .const _ | exact .tmp rfl | exact .cond rfl (by first | assumption | (rw [hp]; rfl) | (rw [hc, hp]; rfl) | simp_all)))) ?_
     refine LW.Y ?_
     refine LW.pp (PEv.fa (PEv.pick_and (.tmp rfl) (fun hp => (by first | exact .const _ | exact .tmp rfl | exact .cond rfl (by first | assumption | (rw [hp]; rfl) | (rw [hc, hp]; rfl) | simp_all)))) (st_band hD)) ?_
     refine LW.pp (PEv.pick_or (.tmp rfl) (fun hp => (by first | exact .const _ | exact .tmp rfl | exact .cond rfl (by first | assumption | (rw [hp]; rfl) | (rw [hc, hp]; rfl) | simp_all)))) ?_
     refine LW.T ?_
     refine CW.cond_false (.tmp rfl) ?_
     refine CW.skip (KW.then (CW.seq ?_))
     refine CW.boxU 10 7 8 5 14 86 (rz.cells) [.eq (.pointer (some ⟨B9, 1, none⟩)), .eq (.agg (redF (4 * T - stE D k) 4).cells), .eq (.agg (rI 1000).cells), .eq (.tuple #[.agg (rI (250 * (4 * T - stE D k))).cells, vi 0]), .eq (.tuple #[.agg (rI (250 * (4 * T - stE D k))).cells, vi 0]), .eq (.agg (rI (250 * (4 * T - stE D k))).cells), .eq (vi 0), .pred fun v _ => ∃ B, v = .pointer (some ⟨B, 0, none⟩), .eq (undef), .eq (vi 0)] [15] Tryd.zeroValue30 Tryd.sizeOf30 (by kernel_rfl) rfl (by kernel_rfl) (by kernel_rfl) (by kernel_rfl) (by kernel_rfl) (by kernel_rfl) (by kernel_rfl) (by kernel_rfl) rfl rfl ⟨_, _, _, rfl⟩ _ rfl ⟨_, _, _, rfl⟩ ⟨PhT.eq _ _, PhT.eq _ _, PhT.eq _ _, PhT.eq _ _, PhT.eq _ _, PhT.eq _ _, PhT.eq _ _, PhT.pred fun _ _ _ h _ => h, PhT.eq _ _, PhT.eq _ _, trivial⟩ rfl (fun v W h => ⟨_, h, rfl, Rt.one _⟩) (fun B W => ⟨B, rfl⟩) ?_ ?_
     ·intro W hU0
      have hU := (Up.drew w15).trans hU0
      have hSW := hS.up hU
      refine allL.cons (.inr ⟨rfl, TU.p (PEv.fieldAddr (off := 1) Tryd.underlying33 rfl rfl Tryd.sizeOf30 rfl (.tmp rfl)) rfl⟩) ?_
      refine allL.cons (.inr ⟨rfl, TU.p (PEv.loadA Tryd.isAgg30 Tryd.sizeOf30 rfl (.tmp rfl) ((show AggAt _ _ _ (redF (4 * T - stE D k) 4).cells from by rw [← hpar]; exact dp_par0 (p := (⟨decNow (stB D T k) 4 0 9 (10 * ((k : Int) + 1)), adp, cpp⟩ : DP)) (hSW.blk 4 rfl)))) rfl⟩) ?_
      refine allL.cons (.inr ⟨rfl, TU.c (enter_call0 (.cons (.const _) .nil) (Tryd.en8)) (rwhole_any 1000 W) (by rintro _ W1 ⟨rfl, u⟩; exact ⟨u, rfl⟩)⟩) ?_
      refine allL.cons (.inr ⟨rfl, TU.c (enter_call0 (.cons (.tmp rfl) (.cons (.tmp rfl) .nil)) (Tryd.en10)) (Mul_any (redF (4 * T - stE D k) 4) (rI 1000) W (redQ_ok (by omega)) (rI_ok (by decide))) (by rintro _ W1 ⟨rfl, u_⟩; rw [mul_q (by omega)]; exact ⟨u_, rfl⟩)⟩) ?_
      refine allL.cons (.inr ⟨rfl, TU.p (PEv.move (.tmp rfl)) rfl⟩) ?_
      refine allL.cons (.inr ⟨rfl, TU.p (PEv.extract (.tmp rfl) rfl) rfl⟩) ?_
      refine allL.cons (.inr ⟨rfl, TU.p (PEv.extract (.tmp rfl) rfl) rfl⟩) ?_
      refine allL.cons (.inl (.inl rfl)) ?_
      refine allL.cons (.inl (.inr rfl)) ?_
      refine allL.cons (.inr ⟨rfl, TU.p (PEv.assign (.tmp rfl)) rfl⟩) ?_
      exact allL.nil
     ·intro w16 B14 g hU0 zB14_ hB14 hg
      have hU := (Up.drew w15).trans hU0
      have zw16 := hU.size
      have zdr : w15.drew.heap.size = w15.heap.size := rfl
      have g86_ : g 86 = .agg (rI (250 * (4 * T - stE D k))).cells := hg 5 _ 86 (by decide) rfl rfl
      have g15_ : g 15 = vi 0 := hg 9 _ 15 (by decide) rfl rfl
      rw [g86_] at hB14
      replace hB14 : Blk w16 B14 (Rt.cells (rI (250 * (4 * T - stE D k)))) 30 := hB14
      change LW _ _ _ _ _ _ _ _ ((14, _) :: (15, .eq (g 15)) :: _) _
      rw [g15_]
      clear hg
      replace hS := (hS.up (Up.drew _)).add hU0 (A' := aBlk B14 (Rt.cells (rI (250 * (4 * T - stE D k)))) 30) hB14 (fun i (e : i = B14) => by omega)
      change Wx.Sep _ _ _ [_, _, _, _, _, _, _] at hS
      clear hB14
      refine LW.S (CW.S (LW.M rfl ?_))
      refine LW.pp (PEv.fa (PEv.neq (.tmp rfl) (.const _)) (rfl)) ?_
      refine LW.M rfl ?_
      refine LW.Y ?_
      refine LW.pp (PEv.fieldAddr (off := 1) Tryd.underlying30 rfl rfl Tryd.sizeOf3 rfl (.tmp rfl)) ?_
      refine LW.Y ?_
      refine LW.pp (PEv.load Tryd.isAgg3 (.tmp rfl) ((hS.blk 6 rfl).celln rfl)) ?_
      refine LW.Y ?_
      refine LW.pp (PEv.fa (PEv.neq (.tmp rfl) (.const _)) (rfl)) ?_
      refine LW.pp (PEv.pick_or (.tmp rfl) (fun hp => (by first | exact .const _ | exact .tmp rfl | exact .cond rfl (by first | assumption | (rw [hp]; rfl) | (rw [hc, hp]; rfl) | simp_all)))) ?_
      refine LW.T ?_
      refine CW.cond_false (.tmp rfl) ?_
      refine CW.skip (KW.then (CW.seq ?_))
      refine CW.draws_heavy 9 (fun v w'' => Wx.Sep (fun i => i = B6) wE w'' [aBlk B6 (cC vp vm N0 (.slice (some ⟨B27, 0, none⟩) 1 1)) 28, aOwn 25 19 Fact.cells (v) ((List.range k).map (stR D T) ++ [stR D T k]), aOwn 25 19 Fact.cells (vm) ((List.range k).map (stM D T)), aBlk B7 (Rt.cells (redF (4 * T - stE D k) 4)) 30, aBlk B9 (DP.cells (⟨decNow (stB D T k) 4 0 9 (10 * ((k : Int) + 1)), adp, cpp⟩ : DP)) 33, aBlk B11 (Rt.cells (redF (4 * T - stE D k + 4 * D) 4)) 30, aBlk B14 (Rt.cells (rI (250 * (4 * T - stE D k)))) 30]) (by kernel_rfl) (by kernel_rfl) (by kernel_rfl) (by kernel_rfl) (by kernel_rfl) (by kernel_rfl) rfl rfl rfl rfl rfl ?_
      refine HW.pp (PEv.fieldAddr (off := 0) Tryd.underlying28 rfl rfl Tryd.sizeOf26 rfl (.tmp rfl)) ?_
      refine HW.pp (PEv.load Tryd.isAgg26 (.tmp rfl) ((hS.blk 0 rfl).celln rfl)) ?_
      refine HW.pp (PEv.move (.tmp rfl)) ?_
      refine HW.pp (PEv.move (.tmp rfl)) ?_
      refine HW.pp (PEv.vl (v' := vi (10 * ((k : Int) + 1))) (PEv.mul_w (.const _) (.tmp rfl)) (congrArg (Go.Value.int .i64) (wrap_i64_in (by omega) (by omega)))) ?_
      refine HW.pp (PEv.fieldAddr (off := 0) Tryd.underlying30 rfl rfl Tryd.sizeOf3 rfl (.tmp rfl)) ?_
      refine HW.pp (PEv.load Tryd.isAgg3 (.tmp rfl) ((hS.blk 6 rfl).celln rfl)) ?_
      refine HW.c (fun a w _ ha => enter_call0 (.cons (.tmp rfl) (.cons (.tmp rfl) (.cons (.tmp rfl) .nil))) (Tryd.en11) a ha) rfl rfl (fun w hu => run_any _ _ _ w) ?_
      refine HW.r (p := fun v w => Sl w v 19 (Fact.cells) [stR D T k]) (fun _ _ _ h u => Sl.up h u) rfl (fun w hu a ha => let ⟨v, w', h1, h2⟩ := REv.buildSlice (xs := [stR D T k]) (enc := Fact.cells) (mk := fun f : Fact => .agg f.cells) Tryd.underlying26 Tryd.sizeOf25 Tryd.zeroValue25 rfl (Nat.le_of_ble_eq_true rfl) (fun _ => rfl) (fun _ => rfl) (.cons (.tmp rfl) .nil) rfl a ha; ⟨v, w', h1, h2.q⟩) rfl ?_
      refine HW.nil ⟨fun a w' hu ha => ?_, ?_⟩
      ·exact (REv.open (d := 103) (p := fun v w => Sl w v 19 Fact.cells [stR D T k]) rfl fun vv hv => (REv.appendF (bytes := 160) (i := Tryd.t25) Tryd.underlying26 (by kernel_rfl) rfl rfl rfl rfl (by decide) (fun _ => rfl) Fact.one (.tmp rfl) (.tmp rfl) ((hS.up hu).own 1 rfl) hv (by simp [maxLen]; omega) (by simp; omega)).mono fun v' w'' h => (hS.up hu).stp 1 rfl h).y ha
      intro v104 w17 hS
      refine LW.pp (PEv.fieldAddr (off := 0) Tryd.underlying28 rfl rfl Tryd.sizeOf26 rfl (.tmp rfl)) ?_
      refine LW.s (SEv.store Tryd.sizeOf26 (.tmp rfl) (.tmp rfl) ((hS.own 1 rfl).oneV (fun _ => rfl)) (hS.blk 0 rfl) (Nat.le_of_ble_eq_true rfl)) rfl rfl rfl ?_
      intro w18 Nw18
      have zw18 := Nw18.size
      replace hS := hS.putB 0 rfl (show Set_ _ w18 _ (cC v104 vm N0 (.slice (some ⟨B27, 0, none⟩) 1 1)) _ from Nw18)
      change Wx.Sep _ _ _ [_, _, _, _, _, _, _] at hS
      refine LW.S (CW.region ?_)
      refine LW.pp (PEv.fieldAddr (off := 1) Tryd.underlying28 rfl rfl Tryd.sizeOf26 rfl (.tmp rfl)) ?_
      refine LW.pp (PEv.load Tryd.isAgg26 (.tmp rfl) ((hS.blk 0 rfl).celln rfl)) ?_
      refine LW.M rfl (LW.M rfl ?_)
      refine LW.pp (PEv.vl (v' := vi (10 * ((k : Int) + 1))) (PEv.mul_w (.const _) (.tmp rfl)) (congrArg (Go.Value.int .i64) (wrap_i64_in (by omega) (by omega)))) ?_
      refine LW.pp (PEv.add (.tmp rfl) (.const _) (by omega) (by omega)) ?_
      refine LW.M rfl ?_
      refine LW.pp (PEv.build (cs := (stM D T k).cells) Tryd.underlying25 Tryd.zeroValue25 Tryd.places25 (.cons (.const _) (.cons (.const _) (.cons (.tmp rfl) (.cons (.tmp rfl) (.cons (.tmp rfl) .nil))))) (by kernel_rfl)) ?_
      refine LW.r (REv.buildSlice (xs := [stM D T k]) (enc := Fact.cells) (mk := fun f : Fact => .agg f.cells) Tryd.underlying26 Tryd.sizeOf25 Tryd.zeroValue25 rfl (by decide) (fun _ => rfl) (fun _ => rfl) (.cons (.tmp rfl) .nil) rfl) rfl rfl rfl rfl ?_
      rintro _ w19 ⟨B114, cB114, rfl, NB114, yB114, xB114⟩
      have eB114 := NB114.at_
      have zB114 := NB114.size
      replace hS := hS.up NB114.up
      have hE114 := xB114
      refine LW.r (REv.appendF (enc := Fact.cells) (bytes := 160) (i := Tryd.t25) Tryd.underlying26 (by kernel_rfl) rfl rfl rfl rfl (by decide) (fun _ => rfl) Fact.one (.tmp rfl) (.tmp rfl) (hS.own 2 rfl) (Sl.of_els hE114) (by simp [maxLen]; omega) (by simp; omega)) rfl rfl rfl rfl ?_
      intro v115 w20 Gw20
      have zw20 := Gw20.fr.size
      replace hS := hS.stp 2 rfl Gw20
      change Wx.Sep _ _ _ [_, _, _, _, _, _, _] at hS
      refine LW.pp (PEv.fieldAddr (off := 1) Tryd.underlying28 rfl rfl Tryd.sizeOf26 rfl (.tmp rfl)) ?_
      refine LW.s (SEv.store Tryd.sizeOf26 (.tmp rfl) (.tmp rfl) ((hS.own 2 rfl).oneV (fun _ => rfl)) (hS.blk 0 rfl) (Nat.le_of_ble_eq_true rfl)) rfl rfl rfl ?_
      intro w21 Nw21
      have zw21 := Nw21.size
      replace hS := hS.putB 0 rfl (show Set_ _ w21 _ (cC v104 v115 N0 (.slice (some ⟨B27, 0, none⟩) 1 1)) _ from Nw21)
      change Wx.Sep _ _ _ [_, _, _, _, _, _, _] at hS
      refine LW.S ?_
      rw [← map_range_succ, ← map_range_succ] at hS
      have hlen1 := st_len D T (k + 1)
      refine CW.region ?_
      refine LW.pp (PEv.loadA Tryd.isAgg28 Tryd.sizeOf28 rfl (.tmp rfl) ((hS.blk 0 rfl).agg)) ?_
      refine LW.M rfl ?_
      refine LW.c (enter_call0 (.cons (.tmp rfl) (.cons (.tmp rfl) .nil)) (Tryd.en12)) rfl rfl rfl rfl (Explain_any _ (stB D T (k + 1)) ((k : Int) + 1) _ (cC_base ((hS.own 1 rfl).sl (fun _ => rfl)) ((hS.own 2 rfl).sl (fun _ => rfl)) (sl0 _) ⟨_, _, rfl, hTf _ hS.fr⟩) (by omega) (by omega) (by omega) (by omega) (st_val hT hD)) ?_
      rintro _ w22 ⟨_, rfl, ⟨ade, cpe, rfl, hOe_⟩, uw22⟩
      have zw22 := uw22.size
      replace hS := hS.up uw22
      clear hOe_
      rw [st_exp hT hD]
      refine LW.M rfl (LW.pp (PEv.extract (.tmp rfl) rfl) (LW.pp (PEv.extract (.tmp rfl) rfl) (LW.pp (PEv.extract (.tmp rfl) rfl) ?_)))
      refine LW.r (REv.allocA Tryd.zeroValue33) rfl rfl rfl rfl ?_
      rintro _ w23 ⟨B16, rfl, MB16⟩
      refine LW.s (SEv.storeA Tryd.sizeOf33 rfl (.tmp rfl) (.tmp rfl) (DP.one _) MB16.blk rfl) rfl rfl rfl ?_
      intro w24 LB16
      have NB16 := MB16.set LB16
      clear LB16 MB16
      have eB16 := NB16.at_
      have zB16 := NB16.size
      replace hS := hS.addB NB16
      change Wx.Sep _ _ _ [_, _, _, _, _, _, _, _] at hS
      refine LW.A rfl (LW.A rfl (LW.S (CW.region (LW.M rfl ?_))))
      refine LW.pp (PEv.fa (PEv.neq (.tmp rfl) (.const _)) (rfl)) ?_
      refine LW.M rfl ?_
      refine LW.Y ?_
      refine LW.M rfl ?_
      refine LW.Y ?_
      refine LW.pp (PEv.fa (PEv.not (.tmp rfl)) (rfl)) ?_
      refine LW.pp (PEv.pick_or (.tmp rfl) (fun hp => (by first | exact .const _ | exact .tmp rfl | exact .cond rfl (by first | assumption | (rw [hp]; rfl) | (rw [hc, hp]; rfl) | simp_all)))) ?_
      refine LW.T ?_
      refine CW.cond_false (.tmp rfl) ?_
      refine CW.skip (KW.inBlock (KW.then (CW.region (LW.M rfl ?_))))
      refine LW.pp (PEv.add (.tmp rfl) (.const _) (by omega) (by omega)) ?_
      refine LW.A rfl (LW.nil (KW.round ?_))
      exact ⟨(k + 1, v104, v115, (redF (4 * T - stE D k) 4)), ⟨by show k + 1 ≤ 36; omega, fun _ => rfl, hS.take 4⟩, ⟨rfl, rfl, rfl, rfl, rfl, rfl, trivial⟩, by show 36 - (k + 1) < 36 - k; omega⟩
   ·first | replace h31 := dT h31 | replace h31 := dF h31 | skip
    refine CW.exit (KW.then_exit (KW.then_exit (KW.block_hit (KW.then (CW.S (LW.M rfl (LW.A rfl (LW.T (CW.ret ?_)))))))))
    refine KW.ret1 rfl rfl ⟨_, rfl, ?_⟩
    exact ⟨rfl, hUp _ hS.fr⟩
end Go.Proofs.YtgffaeachbbjoaaDoor
end
