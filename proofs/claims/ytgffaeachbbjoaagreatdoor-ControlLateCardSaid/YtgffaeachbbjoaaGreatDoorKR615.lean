import Derived.Test.YtgffaeachbbjoaaGreatDoorKR614
section
namespace Go.Wx
theorem addQ {a b : Int} : redF (addN (redF a 4) (redF b 4)) ((redF a 4).d * (redF b 4).d) = redF (a + b) 4 := by
  have h1 := redF_mul (n := a) (d := 4) (by decide)
  have h2 := redF_mul (n := b) (d := 4) (by decide)
  have p1 := redF_d (n := a) (d := 4) (by decide)
  have p2 := redF_d (n := b) (d := 4) (by decide)
  generalize redF a 4 = x at *
  generalize redF b 4 = y at *
  refine redF_eq (Int.mul_pos p1 p2) (by decide) ?_
  show (x.n * y.d + y.n * x.d) * 4 = (a + b) * (x.d * y.d)
  calc (x.n * y.d + y.n * x.d) * 4 = (x.n * 4) * y.d + (y.n * 4) * x.d := by rw [Int.add_mul]; ac_rfl
    _ = (a * x.d) * y.d + (b * y.d) * x.d := by rw [h1, h2]
    _ = (a + b) * (x.d * y.d) := by rw [Int.add_mul]; ac_rfl
theorem addQ_fits {a b : Int} (h : (a + b).natAbs ≤ 1000000000) : fitsF (addN (redF a 4) (redF b 4)) ((redF a 4).d * (redF b 4).d) = true := by
  have h1 := redF_mul (n := a) (d := 4) (by decide)
  have h2 := redF_mul (n := b) (d := 4) (by decide)
  have p1 := redF_d (n := a) (d := 4) (by decide)
  have p2 := redF_d (n := b) (d := 4) (by decide)
  generalize redF a 4 = x at *
  generalize redF b 4 = y at *
  refine fits_eq (v' := 4) (u' := a + b) (Int.mul_pos p1 p2) (by decide) ?_ (fits_small h (by decide))
  show (x.n * y.d + y.n * x.d) * 4 = (a + b) * (x.d * y.d)
  calc (x.n * y.d + y.n * x.d) * 4 = (x.n * 4) * y.d + (y.n * 4) * x.d := by rw [Int.add_mul]; ac_rfl
    _ = (a * x.d) * y.d + (b * y.d) * x.d := by rw [h1, h2]
    _ = (a + b) * (x.d * y.d) := by rw [Int.add_mul]; ac_rfl
theorem addQ_mk {a b : Int} (h : (a + b).natAbs ≤ 1000000000) : mkF (addN (redF a 4) (redF b 4)) ((redF a 4).d * (redF b 4).d) = (redF (a + b) 4, 0) := by rw [mkF_fits (addQ_fits h), addQ]
def negR (a : Rt) : Rt := ⟨-a.n, a.d⟩
theorem redF1 (T : Int) : redF T 1 = redF (4 * T) 4 := redF_eq (by decide) (by decide) (by omega)
theorem negQ (e : Int) : negR (redF e 4) = redF (-e) 4 := by
  refine rt_uniq (redF_d (by decide)) (redF_d (by decide)) ?_ (redF_co (by decide)) ?_
  · show gcdA (-(redF e 4).n) (redF e 4).d = 1
    unfold gcdA
    rw [Int.natAbs_neg]; exact redF_co (by decide)
  · have h1 := redF_mul (n := e) (d := 4) (by decide)
    have h2 := redF_mul (n := -e) (d := 4) (by decide)
    generalize redF (-e) 4 = y at *
    have p : (redF e 4).d = (redF e 4).d := rfl
    show -(redF e 4).n * y.d = y.n * (redF e 4).d
    generalize redF e 4 = x at *
    refine Int.eq_of_mul_eq_mul_right (show (4 : Int) ≠ 0 by decide) ?_
    calc -x.n * y.d * 4 = -(x.n * 4) * y.d := by rw [Int.neg_mul, Int.neg_mul, Int.neg_mul]; ac_rfl
      _ = (-e * y.d) * x.d := by rw [h1, Int.neg_mul, Int.neg_mul, Int.neg_mul]; ac_rfl
      _ = y.n * x.d * 4 := by rw [← h2]; ac_rfl
theorem subQ_mk {T e : Int} (h : (4 * T - e).natAbs ≤ 1000000000) : mkF (addN (redF T 1) (negR (redF e 4))) ((redF T 1).d * (redF e 4).d) = (redF (4 * T - e) 4, 0) := by
  have hd : (redF e 4).d = (redF (-e) 4).d := by rw [← negQ]; rfl
  rw [hd, negQ, redF1, show 4 * T - e = 4 * T + -e by omega]
  exact addQ_mk (by rw [show 4 * T + -e = 4 * T - e by omega]; exact h)
theorem rndQ (e : Int) : rndN (redF e 4) 1000 = 250 * e := by
  have h1 := redF_mul (n := e) (d := 4) (by decide)
  have p1 := redF_d (n := e) (d := 4) (by decide)
  generalize redF e 4 = x at *
  show (2 * x.n * 1000 + x.d) / (2 * x.d) = 250 * e
  have e1 : 2 * x.n * 1000 + x.d = x.d + (2 * x.d) * (250 * e) := by
    have : 2 * x.n * 1000 = 500 * (x.n * 4) := by omega
    have h3 : 2 * x.d * (250 * e) = (2 * 250) * (e * x.d) := by ac_rfl
    rw [this, h1, h3]
    omega
  rw [e1, Int.add_mul_ediv_left _ _ (by omega), Int.ediv_eq_zero_of_lt (by omega) (by omega)]
  omega
theorem rndQ_mk {e : Int} (h : e.natAbs ≤ 1000000000) : mkF (rndN (redF e 4) 1000) 1000 = (redF e 4, 0) := by
  rw [rndQ, mkF_fits (fits_eq (v' := 4) (u' := e) (by decide) (by decide) (by omega) (fits_small h (by decide))), redF_eq (u' := e) (v' := 4) (by decide) (by decide) (by omega)]
theorem redQ_ok {e : Int} (h : e.natAbs ≤ 1000000000) : (redF e 4).ok := redF_ok (by decide) (fits_small h (by decide))
theorem red1_ok {e : Int} (h : e.natAbs ≤ 1000000000) : (redF e 1).ok := redF_ok (by decide) (fits_small h (by decide))
def clears (d : Int × Bool) : Bool := d.2 && (decide (d.1 < -2) || decide (2 < d.1))
def sumStep (M T : List Fact) (r t : Int) (s : Int × List Int) (x : Fact) : Int × List Int := if clears (devF M T r x t) then (s.1 + (devF M T r x t).1, s.2 ++ [x.ID]) else s
def sumF (M T : List Fact) (r t : Int) (l : List Fact) : Int × List Int := l.foldl (sumStep M T r t) (0, [])
theorem sumF_take {M T : List Fact} {r t : Int} {l : List Fact} {k : Nat} {x : Fact} (h : l[k]? = some x) : sumF M T r t (l.take (k + 1)) = sumStep M T r t (sumF M T r t (l.take k)) x := by
  rw [take_succ_of h, sumF, List.foldl_append]; rfl
theorem sum_yes {M T : List Fact} {r t : Int} {s : Int × List Int} {x : Fact} (h : clears (devF M T r x t) = true) : sumStep M T r t s x = (s.1 + (devF M T r x t).1, s.2 ++ [x.ID]) := if_pos h
theorem sum_no {M T : List Fact} {r t : Int} {s : Int × List Int} {x : Fact} (h : clears (devF M T r x t) = false) : sumStep M T r t s x = s := if_neg (by rw [h]; exact Bool.false_ne_true)
theorem sum_bd (M T : List Fact) (r t : Int) : ∀ (l : List Fact) (s : Int × List Int), -2000000 * (l.length : Int) ≤ (l.foldl (sumStep M T r t) s).1 - s.1 ∧ (l.foldl (sumStep M T r t) s).1 - s.1 ≤ 2000000 * (l.length : Int) ∧ (l.foldl (sumStep M T r t) s).2.length ≤ s.2.length + l.length
  | [], s => by simp
  | x :: l, s => by
    have h := sum_bd M T r t l (sumStep M T r t s x)
    have hd := devF_in M T r x t
    rw [List.foldl_cons]
    generalize l.foldl (sumStep M T r t) (sumStep M T r t s x) = q at *
    have hs : -2000000 ≤ (sumStep M T r t s x).1 - s.1 ∧ (sumStep M T r t s x).1 - s.1 ≤ 2000000 ∧ (sumStep M T r t s x).2.length ≤ s.2.length + 1 := by
      cases hc : clears (devF M T r x t) with
      | true => rw [sum_yes hc]; dsimp only; rw [List.length_append]; simp only [List.length_cons, List.length_nil]; omega
      | false => rw [sum_no hc]; omega
    rw [List.length_cons]
    push_cast
    omega
theorem sumF_bd (M T : List Fact) (r t : Int) (l : List Fact) : -2000000 * (l.length : Int) ≤ (sumF M T r t l).1 ∧ (sumF M T r t l).1 ≤ 2000000 * (l.length : Int) ∧ (sumF M T r t l).2.length ≤ l.length := by
  have h := sum_bd M T r t l (0, [])
  unfold sumF
  simp only [Int.sub_zero, List.length_nil, Nat.zero_add] at h
  exact h
def sinceF (rs a : List Fact) : List Fact := rs.foldl (fun a y => a.filter fun x => decide (y.Time ≤ x.Time)) a
theorem sinceF_take {rs a : List Fact} {k : Nat} {y : Fact} (h : rs[k]? = some y) : sinceF (rs.take (k + 1)) a = (sinceF (rs.take k) a).filter fun x => decide (y.Time ≤ x.Time) := by
  rw [take_succ_of h, sinceF, List.foldl_append]; rfl
theorem sinceF_len (rs : List Fact) : ∀ a : List Fact, (sinceF rs a).length ≤ a.length := by
  induction rs with
  | nil => exact fun _ => Nat.le_refl _
  | cons y rs ih => exact fun a => Nat.le_trans (ih _) (List.length_filter_le _ _)
def hereF (t c time : Int) (x : Fact) : Bool := decide (x.Tool = t) && decide (x.Chamber = c) && decide (x.Time ≤ time)
def resL (b : Base) (t c time : Int) : List Fact := b.Resets.filter (hereF t c time)
def parF (T E : Int) : Rt := clampF (redF (4 * T - E) 4) (redF (-10000) 1) (redF 10000 1)
structure Dec where
  run : Int
  par : Rt
  est : Rt
  uses : List Int
def decF (b : Base) (t c r time : Int) (ahead : List Fact) : Dec :=
  ⟨0, parF (tarF b.Targets r time) (sumF b.Measures b.Targets r time (sinceF (resL b t c time) ahead)).1, redF (sumF b.Measures b.Targets r time (sinceF (resL b t c time) ahead)).1 4, (sumF b.Measures b.Targets r time (sinceF (resL b t c time) ahead)).2⟩
structure DecV where
  run : Int
  par : Rt
  est : Rt
  uv : Value
def DecV.cells (d : DecV) : Array Value := #[vi d.run, vi d.par.n, vi d.par.d, vi d.est.n, vi d.est.d, d.uv]
def Dec.v (d : Dec) (v : Value) : DecV := ⟨d.run, d.par, d.est, v⟩
def rz : Rt := ⟨0, 0⟩
theorem decV_est {w : World} {B : Nat} {d : DecV} {T : TypeId} (h : Blk w B d.cells T) : AggAt w B 3 d.est.cells := fun j v hv => h.cell (by
  match j with
  | 0 => simpa [Rt.cells, DecV.cells] using hv
  | 1 => simpa [Rt.cells, DecV.cells] using hv
  | j + 2 => simp [Rt.cells] at hv)
theorem decV_one (d : DecV) (h : d.uv.oneCell' = true) : d.cells.all (·.oneCell') = true := by simp [DecV.cells, show ∀ i : Int, (vi i).oneCell' = true from fun _ => rfl, h]
def CArg (P : Program) (w : World) (v : Value) (p : Fact → Bool) : Prop := ∃ ad cp qs, v = .slice ad (List.length qs) cp ∧ Els w ad 1 Cnd.cells qs ∧ CndsOk P w qs ∧ qs.length ≤ 100000 ∧ ∀ x, allQ qs x = p x
theorem CArg.up {P : Program} {w w' : World} {v : Value} {p : Fact → Bool} (h : CArg P w v p) (u : Up w w') : CArg P w' v p :=
  let ⟨ad, cp, qs, e, hE, hq, hl, hp⟩ := h
  ⟨ad, cp, qs, e, Els.up hE u, hq.up u, hl, hp⟩
theorem filter_eq {p q : Fact → Bool} (h : ∀ x, p x = q x) (l : List Fact) : l.filter p = l.filter q := by rw [show p = q from funext h]
theorem OwnS.oneV {α : Type} {w : World} {b e k : Nat} {enc : α → Array Value} {v : Value} {xs : List α} (h : OwnS w b e k enc v xs) (hk : ∀ x, (enc x).size = k) : v.oneCell' = true := by
  obtain ⟨ad, cp, rfl, _⟩ := h.sl hk
  rfl
def Apt (B : Nat) (ad : Option Addr) (xs : List Fact) : Prop := xs = [] ∨ ∀ q, ad = some q → q.block ≠ B
theorem els_fr {w w' : World} {ad : Option Addr} {xs : List Fact} {B : Nat} (h : Els w ad 19 Fact.cells xs) (f : Fr (fun i => i = B) w w') (hn : Apt B ad xs) : Els w' ad 19 Fact.cells xs :=
  hn.elim (fun e => by subst e; exact fun i x hx => by simp at hx) (fun hn => h.fr f (fun B o e hb => hn _ e hb))
theorem els_apt {w : World} {ad : Option Addr} {xs : List Fact} {B : Nat} (h : Els w ad 19 Fact.cells xs) (hB : w.heap.size ≤ B) : Apt B ad xs := by
  cases xs with
  | nil => exact .inl rfl
  | cons x r =>
    refine .inr fun q hq => ?_
    obtain ⟨B', o, e, hx⟩ := h 0 x rfl
    cases e.symm.trans hq
    have h1 := hx 0 (vi x.Kind) rfl
    unfold World.cell? at h1
    show B' ≠ B
    cases hb : w.heap[B']? with
    | none => rw [hb] at h1; cases h1
    | some ob => have := lt_of_block hb; omega
theorem own_apt {w : World} {b e n cp : Nat} {ad : Option Addr} {xs : List Fact} {B : Nat} (h : OwnS w b e 19 Fact.cells (.slice ad n cp) xs) (hB : B < b) : Apt B ad xs := by
  cases xs with
  | nil => exact .inl rfl
  | cons x r =>
    refine .inr fun q hq => ?_
    obtain ⟨g, rfl⟩ := h.adr (by simp)
    cases hq
    have := h.base g rfl
    show g ≠ B
    omega
theorem up_fr {w0 w w' : World} {B : Nat} (h : Up w0 w) (f : Fr (fun i => i = B) w w') (hB : w0.heap.size ≤ B) : Up w0 w' := ((h.fr (fun _ => False)).next f (fun i e => .inr (by omega))).toUp (fun _ h => h)
end Go.Wx
namespace Go.Proofs.YtgffaeachbbjoaaGreatDoor
open Go.Wx Go.RowKit
theorem decide_any (bc : Array Go.Value) (b : Base) (t c r time : Int) (ada0 : Option Addr) (cpa0 : Nat) (ahead : List Fact) (w : World) (hC : BaseC w bc b) (hE0 : Els w ada0 19 Fact.cells ahead) (hlA : ahead.length ≤ 400) (hlR : b.Resets.length ≤ 100000) (hlM : b.Measures.length ≤ 100000) (hlT : b.Targets.length ≤ 100000) : Ret Tryz.prog 33 #[.agg (placeC bc t c r), vi time, .slice ada0 ahead.length cpa0] w fun r0 w' => ∃ v, r0 = .agg ((decF b t c r time ahead).v v).cells ∧ OwnS w' w.heap.size 3 1 eInt v (decF b t c r time ahead).uses ∧ Up w w' := by
  obtain ⟨w0, rfl⟩ : ∃ w0, w0 = w := ⟨_, rfl⟩
  have hS := Sep.start no w0
  obtain ⟨v8, h8, adR, cpR, rfl, hER⟩ := hC.at8
  refine Calls_start (n := 98) (m := 9) Tryz.func33 rfl rfl rfl ?_
  refine CW.S ?_
  refine LW.r (REv.boxA (.tmp rfl)) rfl rfl rfl rfl ?_
  rintro _ w1 ⟨B3, rfl, NB3⟩
  have eB3 := NB3.at_
  have zB3 := NB3.size
  replace hS := hS.addB NB3
  change Wx.Sep _ _ _ [_] at hS
  refine LW.r (REv.allocA Tryz.zeroValue37) rfl rfl rfl rfl ?_
  rintro _ w2 ⟨B6, rfl, NB6⟩
  have eB6 := NB6.at_
  have zB6 := NB6.size
  replace hS := hS.addB NB6
  change Wx.Sep _ _ _ [_, _] at hS
  refine LW.S (CW.region ?_)
  refine LW.pp (PEv.makeFunc (.cons (.tmp rfl) .nil)) ?_
  refine LW.A rfl (LW.S (CW.seq ?_))
  refine CW.free 10 [.eq (.pointer (some ⟨B3, 0, none⟩)), .eq (.pointer (some ⟨B3, 8, none⟩)), .eq (.slice adR b.Resets.length cpR), .eq (.func (.func 58) #[] #[.pointer (some ⟨B3, 0, none⟩)]), .eq (vi time), .pred fun v W => CondOk Tryz.prog W v (fun x => decide (x.Time ≤ time)), .pred fun v W => CArg Tryz.prog W v (hereF t c time), .pred fun v W => Sl W v 19 Fact.cells (resL b t c time), .eq (vi ((resL b t c time).length : Int)), .eq (vi 0)] [23, 24, 25] (by kernel_rfl) rfl (by kernel_rfl) (by kernel_rfl) (by kernel_rfl) (by kernel_rfl) (by kernel_rfl) (by kernel_rfl) (by kernel_rfl) ⟨PhU.eq _, PhU.eq _, PhU.eq _, PhU.eq _, PhU.eq _, PhU.pred fun _ _ _ h u => h.up u, PhU.pred fun _ _ _ h u => h.up u, PhU.pred fun _ _ _ h u => Sl.up h u, PhU.eq _, PhU.eq _, trivial⟩ ?_ ?_
  ·intro W hU0
   have hU := (Up.drew w2).trans hU0
   have hSW := hS.up hU
   refine allL.cons ⟨rfl, TU.p (PEv.fieldAddr (off := 0) Tryz.underlying68 rfl rfl Tryz.sizeOf24 rfl (.tmp rfl)) rfl⟩ ?_
   refine allL.cons ⟨rfl, TU.p (PEv.fieldAddr (off := 8) Tryz.underlying24 rfl rfl Tryz.sizeOf22 rfl (.tmp rfl)) rfl⟩ ?_
   refine allL.cons ⟨rfl, TU.p (PEv.load Tryz.isAgg22 (.tmp rfl) (placeC_lst (hSW.blk 0 rfl) h8)) rfl⟩ ?_
   refine allL.cons ⟨rfl, TU.p (PEv.move (.tmp rfl)) rfl⟩ ?_
   refine allL.cons ⟨rfl, TU.p (PEv.move (.tmp rfl)) rfl⟩ ?_
   refine allL.cons ⟨rfl, TU.c (enter_call0 (.cons (.tmp rfl) .nil) (Tryz.en36)) (until_any time W) (by rintro _ W1 ⟨h, u⟩; exact ⟨u, h⟩)⟩ ?_
   refine allL.cons ⟨rfl, TU.open (d := 21) rfl (by rintro _ ⟨cf, lb, rfl, he, hp⟩; exact TU.r (REv.buildSlice (xs := [(⟨58, #[.pointer (some ⟨B3, 0, none⟩)], fun x => decide (x.Tool = t) && decide (x.Chamber = c)⟩ : Cnd), (⟨cf, lb, fun x => decide (x.Time ≤ time)⟩ : Cnd)]) (enc := Cnd.cells) (mk := Cnd.v) Tryz.underlying113 Tryz.sizeOf72 Tryz.zeroValue72 rfl (by decide) (fun _ => rfl) (fun _ => rfl) (.cons (.tmp rfl) (.cons (.tmp rfl) .nil)) rfl) (by rintro _ W1 ⟨B, c_, rfl, N, y, x_⟩; exact ⟨N.up, _, _, _, rfl, x_, CndsOk.cons (⟨58, #[.pointer (some ⟨B3, 0, none⟩)], rfl, Tryz.en58, fun W2 u x => here_any bc b t c r x B3 _ W2 hC ((hSW.blk 0 rfl).up (N.up.trans u))⟩ : CondOk Tryz.prog W1 (⟨58, #[.pointer (some ⟨B3, 0, none⟩)], fun x => decide (x.Tool = t) && decide (x.Chamber = c)⟩ : Cnd).v (⟨58, #[.pointer (some ⟨B3, 0, none⟩)], fun x => decide (x.Tool = t) && decide (x.Chamber = c)⟩ : Cnd).p) (CndsOk.cons (⟨cf, lb, rfl, he, fun W2 u x => hp W2 (N.up.trans u) x⟩ : CondOk Tryz.prog W1 (Cnd.v ⟨cf, lb, fun x => decide (x.Time ≤ time)⟩) (fun x => decide (x.Time ≤ time))) CndsOk.nil), by simp, fun x => by simp [allQ, hereF]⟩))⟩ ?_
   refine allL.cons ⟨rfl, TU.open (d := 22) rfl (by rintro _ ⟨ad, cp_, qs, rfl, hE, hq, hlq, hpq⟩; exact TU.c (enter_call0 (.cons (.tmp rfl) (.cons (.tmp rfl) .nil)) (Tryz.en34)) (all_any adR cpR b.Resets ad cp_ qs W (Els.up hER (hS.upd.trans hU)) hlR hE hlq hq) (by rintro v W1 ⟨h, u⟩; rw [filter_eq hpq] at h; exact ⟨u, h.sl (fun _ => rfl)⟩))⟩ ?_
   refine allL.cons ⟨rfl, TU.open (d := 23) rfl (by rintro _ ⟨ad, cp_, rfl, h⟩; exact TU.p (PEv.lenS Tryz.underlying22 (.tmp rfl)) rfl)⟩ ?_
   refine allL.cons ⟨rfl, TU.p (PEv.move (.const _)) rfl⟩ ?_
   exact allL.nil
  ·intro w3 g hU0 hg
   have hU := (Up.drew w2).trans hU0
   have zw3 := hU.size
   replace hS := hS.up hU
   obtain ⟨RS, eRS⟩ : ∃ R, R = resL b t c time := ⟨_, rfl⟩
   rw [← eRS] at hg
   obtain ⟨ad23, cp23, e23, hR⟩ : Sl w3 (g 23) 19 Fact.cells RS := hg 7 _ 23 (by decide) rfl rfl
   have e24 : g 24 = vi (RS.length : Int) := hg 8 _ 24 (by decide) rfl rfl
   have e25 : g 25 = vi 0 := hg 9 _ 25 (by decide) rfl rfl
   replace hR : Els w3 ad23 19 Fact.cells RS := hR
   change LW _ _ _ _ _ _ _ _ ((23, .eq (g 23)) :: (24, .eq (g 24)) :: (25, .eq (g 25)) :: _) _
   rw [e23, e24, e25]
   clear e23 e24 e25 hg
   have hA := Els.up hE0 hS.upd
   have hRl : RS.length ≤ 100000 := by rw [eRS]; exact Nat.le_trans (List.length_filter_le _ _) hlR
   refine LW.T (CW.block ?_)
   refine CW.loopB (σ := Nat × List Fact × Option Addr × Nat) (fun s w => (s.1 ≤ RS.length) ∧ (s.2.1 = sinceF (RS.take s.1) ahead) ∧ (s.2.1.length ≤ ahead.length) ∧ (Apt B6 s.2.2.1 s.2.1) ∧ (Wx.Sep no w0 w [aBlk B3 (placeC bc t c r) 68, aBlk B6 (DecV.cells ⟨0, rz, rz, .slice none 0 0⟩) 37]) ∧ (Els w ad23 19 Fact.cells RS) ∧ (Els w s.2.2.1 19 Fact.cells s.2.1)) (fun s => [(25, .eq (vi (s.1 : Int))), (2, .eq (.slice s.2.2.1 s.2.1.length s.2.2.2))]) ([(1, .eq _), (3, .eq _), (6, .eq _), (23, .eq _), (24, .eq _)]) (fun s => RS.length - s.1) (0, ahead, ada0, cpa0) ?_ ⟨rfl, rfl, rfl, rfl, rfl, rfl, rfl, trivial⟩ ?_
   ·exact ⟨Nat.zero_le _, rfl, Nat.le_refl _, els_apt hE0 (by omega), hS, hR, hA⟩
   ·rintro ⟨k, a, ada, cpa⟩ w4 ⟨hk, ha, hla, hna, hS, hR, hA⟩
    dsimp only at hk ha hla hna hS hA
    change CW _ _ _ _ _ _ _ ([(25, .eq (vi (k : Int))), (2, .eq (.slice ada a.length cpa))] ++ _) _
    refine CW.S ?_
    refine LW.pp (PEv.lss (.tmp rfl) (.tmp rfl)) ?_
    refine LW.S ?_
    refine CW.cond (.tmp rfl) (fun h26 => ?_) (fun h26 => ?_)
    ·first | replace h26 := dT h26 | replace h26 := dF h26 | skip
     refine CW.skip (KW.then (CW.seq (CW.block (CW.S ?_))))
     obtain ⟨y, hy⟩ := getElem?_of_lt (xs := RS) (i := k) (by omega)
     obtain ⟨By, oy, ay, hcy⟩ := hR _ y hy
     refine LW.pp (PEv.indexAddr' Tryz.underlying22 Tryz.sizeOf50 (.tmp rfl) (.tmp rfl) (by omega) ay) ?_
     refine LW.pp (PEv.loadA Tryz.isAgg50 Tryz.sizeOf50 rfl (.tmp rfl) (hcy)) ?_
     refine LW.r (REv.allocA Tryz.zeroValue50) rfl rfl rfl rfl ?_
     rintro _ w5 ⟨B9, rfl, MB9⟩
     refine LW.s (SEv.storeA Tryz.sizeOf50 rfl (.tmp rfl) (.tmp rfl) (Fact.one _) MB9.blk rfl) rfl rfl rfl ?_
     intro w6 LB9
     have NB9 := MB9.set LB9
     clear LB9 MB9
     have eB9 := NB9.at_
     have zB9 := NB9.size
     replace hR := hR.up NB9.up
     replace hA := hA.up NB9.up
     replace hcy := hcy.up NB9.up
     replace hS := hS.addB NB9
     change Wx.Sep _ _ _ [_, _, _] at hS
     refine LW.T ?_
     have hlt6 := (hS.blk 1 rfl).lt
     refine CW.region (LW.M rfl ?_)
     refine LW.pp (PEv.makeFunc (.cons (.tmp rfl) .nil)) ?_
     refine LW.r (REv.buildSlice (xs := [(⟨59, #[.pointer (some ⟨B9, 0, none⟩)], fun x => decide (y.Time ≤ x.Time)⟩ : Cnd)]) (enc := Cnd.cells) (mk := Cnd.v) Tryz.underlying113 Tryz.sizeOf72 Tryz.zeroValue72 rfl (by decide) (fun _ => rfl) (fun _ => rfl) (.cons (.tmp rfl) .nil) rfl) rfl rfl rfl rfl ?_
     rintro _ w7 ⟨B31, cB31, rfl, NB31, yB31, xB31⟩
     have eB31 := NB31.at_
     have zB31 := NB31.size
     replace hS := hS.up NB31.up
     replace hR := hR.up NB31.up
     replace hA := hA.up NB31.up
     have hE31 := xB31
     refine LW.c (enter_call0 (.cons (.tmp rfl) (.cons (.tmp rfl) .nil)) (Tryz.en34)) rfl rfl rfl rfl (all_any ada cpa a _ _ _ _ hA (by omega) hE31 (by simp) (CndsOk.cons ⟨59, #[.pointer (some ⟨B9, 0, none⟩)], rfl, Tryz.en59, fun W u x => since_any x y B9 W ((hS.blk 2 rfl).up u)⟩ CndsOk.nil)) ?_
     rintro v32 w8 ⟨hO32, uw8⟩
     have zw8 := uw8.size
     replace hS := hS.up uw8
     replace hR := hR.up uw8
     replace hA := hA.up uw8
     simp only [allQ, List.all_cons, List.all_nil, Bool.and_true] at hO32
     obtain ⟨ad32, cp32, rfl, hE32_⟩ := hO32.sl (fun _ => rfl)
     have hA2 : Els w8 ad32 19 Fact.cells (a.filter fun x => decide (y.Time ≤ x.Time)) := hE32_
     have hna2 := own_apt (B := B6) hO32 (by omega)
     clear hO32 hE32_
     refine LW.A rfl (LW.nil (KW.inBlock (KW.then (CW.region ?_))))
     refine LW.pp (PEv.inc (.tmp rfl) (by omega)) ?_
     refine LW.M rfl (LW.nil (KW.round ?_))
     exact ⟨(k + 1, (a.filter fun x => decide (y.Time ≤ x.Time)), ad32, cp32), ⟨by show k + 1 ≤ _; omega, by rw [sinceF_take hy, ← ha], Nat.le_trans (List.length_filter_le _ _) hla, hna2, hS.take 2, hR, hA2⟩, ⟨rfl, rfl, rfl, rfl, rfl, rfl, rfl, trivial⟩, by show RS.length - (k + 1) < RS.length - k; omega⟩
    ·first | replace h26 := dT h26 | replace h26 := dF h26 | skip
     refine CW.exit (KW.then_exit (KW.then_exit (KW.block_hit (KW.then (CW.S ?_)))))
     refine LW.c (enter_call0 (.cons (.const _) .nil) (Tryz.en60)) rfl rfl rfl rfl (whole_any (0) _ (by decide)) ?_
     rintro _ w9 ⟨rfl, uw9⟩
     have zw9 := uw9.size
     replace hS := hS.up uw9
     replace hA := hA.up uw9
     refine LW.pp (PEv.fieldAddr (off := 3) Tryz.underlying37 rfl rfl Tryz.sizeOf34 rfl (.tmp rfl)) ?_
     refine LW.s (SEv.storePart Tryz.sizeOf34 rfl (.tmp rfl) (.tmp rfl) (Rt.one _) (hS.blk 1 rfl) (Nat.le_of_ble_eq_true rfl)) rfl rfl rfl ?_
     intro w10 Nw10
     have zw10 := Nw10.size
     replace hS := hS.putB 1 rfl (show Set_ _ w10 _ (DecV.cells ⟨0, rz, redF (0) 4, .slice none 0 0⟩) _ from Nw10)
     change Wx.Sep _ _ _ [_, _] at hS
     replace hA := els_fr hA (Nw10.sto).fr hna
     refine LW.S (CW.seq ?_)
     have hk0 : k = RS.length := by omega
     rw [hk0, List.take_length] at ha
     have hUL := hS.upd
     have hB3L := hS.blk 0 rfl
     have hne6 : B3 ≠ B6 := by omega
     have hUp : ∀ W, Fr (fun i => i = B6) w10 W → Up w0 W := fun W f => up_fr hUL f (by omega)
     have hAf : ∀ W, Fr (fun i => i = B6) w10 W → Els W ada 19 Fact.cells a := fun W f => els_fr hA f hna
     have hB3f : ∀ W, Fr (fun i => i = B6) w10 W → Blk W B3 (placeC bc t c r) 68 := fun W f => hB3L.fr f hne6
     obtain ⟨wL, ewL⟩ : ∃ W, W = w10 := ⟨_, rfl⟩
     rw [← ewL] at hUp hAf hB3f
     replace hS : Wx.Sep (fun i => i = B6) wL w10 [aBlk B6 (DecV.cells ⟨0, rz, redF (0) 4, .slice none 0 0⟩) 37] := by rw [ewL]; exact Sep.cons (hS.blk 1 rfl) (fun _ h => h) (Sep.start _ _) (by simp)
     replace hS := hS.add (Up.refl _) (A' := aOwn 3 1 eInt (.slice none 0 0) ([] : List Int)) (OwnS.nil _ _ _ _ _) (by intro i h; cases h)
     change Wx.Sep _ _ _ [_, _] at hS
     refine CW.region (LW.M rfl ?_)
     refine LW.pp (PEv.lenS Tryz.underlying22 (.tmp rfl)) ?_
     refine LW.pp (PEv.move (.const _)) ?_
     refine LW.T (CW.block ?_)
     refine CW.loopB (σ := Nat × Go.Value × Int × List Int) (fun s w => (s.1 ≤ a.length) ∧ (s.2.2 = sumF b.Measures b.Targets r time (a.take s.1)) ∧ (Wx.Sep (fun i => i = B6) wL w [aBlk B6 (DecV.cells ⟨0, rz, redF (s.2.2.1) 4, s.2.1⟩) 37, aOwn 3 1 eInt (s.2.1) s.2.2.2])) (fun s => [(38, .eq (vi (s.1 : Int)))]) ([(1, .eq _), (3, .eq _), (6, .eq _), (36, .eq _), (37, .eq _)]) (fun s => a.length - s.1) (0, .slice none 0 0, 0, []) ?_ ⟨rfl, rfl, rfl, rfl, rfl, rfl, trivial⟩ ?_
     ·exact ⟨Nat.zero_le _, rfl, hS⟩
     ·rintro ⟨k, v, E, U⟩ w11 ⟨hk, hEU, hS⟩
      dsimp only at hk hEU hS
      change CW _ _ _ _ _ _ _ ([(38, .eq (vi (k : Int)))] ++ _) _
      refine CW.S ?_
      refine LW.pp (PEv.lss (.tmp rfl) (.tmp rfl)) ?_
      refine LW.S ?_
      refine CW.cond (.tmp rfl) (fun h39 => ?_) (fun h39 => ?_)
      ·first | replace h39 := dT h39 | replace h39 := dF h39 | skip
       refine CW.skip (KW.then (CW.seq (CW.block (CW.seq ?_))))
       have hA := hAf _ hS.fr
       refine CW.region ?_
       obtain ⟨x, hx⟩ := getElem?_of_lt (xs := a) (i := k) (by omega)
       obtain ⟨Bx, ox, ax, hcx⟩ := hA _ x hx
       refine LW.pp (PEv.indexAddr' Tryz.underlying22 Tryz.sizeOf50 (.tmp rfl) (.tmp rfl) (by omega) ax) ?_
       refine LW.pp (PEv.loadA Tryz.isAgg50 Tryz.sizeOf50 rfl (.tmp rfl) (hcx)) ?_
       refine LW.r (REv.allocA Tryz.zeroValue50) rfl rfl rfl rfl ?_
       rintro _ w12 ⟨B11, rfl, MB11⟩
       refine LW.s (SEv.storeA Tryz.sizeOf50 rfl (.tmp rfl) (.tmp rfl) (Fact.one _) MB11.blk rfl) rfl rfl rfl ?_
       intro w13 LB11
       have NB11 := MB11.set LB11
       clear LB11 MB11
       have eB11 := NB11.at_
       have zB11 := NB11.size
       replace hcx := hcx.up NB11.up
       replace hS := hS.addB NB11
       change Wx.Sep _ _ _ [_, _, _] at hS
       refine LW.S (CW.region ?_)
       refine LW.pp (PEv.loadA Tryz.isAgg68 Tryz.sizeOf68 ((placeC_size hC t c r)) (.tmp rfl) ((hB3f _ hS.fr).agg)) ?_
       refine LW.pp (PEv.loadA Tryz.isAgg50 Tryz.sizeOf50 rfl (.tmp rfl) ((hS.blk 2 rfl).agg)) ?_
       refine LW.M rfl ?_
       refine LW.c (enter_call0 (.cons (.tmp rfl) (.cons (.tmp rfl) (.cons (.tmp rfl) .nil))) (Tryz.en61)) rfl rfl rfl rfl (deviation_any bc b t c r x time _ (hC.up (hUp _ hS.fr)) hlM hlT) ?_
       rintro _ w14 ⟨rfl, uw14⟩
       have zw14 := uw14.size
       replace hS := hS.up uw14
       refine LW.M rfl (LW.pp (PEv.extract (.tmp rfl) rfl) (LW.pp (PEv.extract (.tmp rfl) rfl) (LW.A rfl (LW.A rfl (LW.S (CW.region (LW.M rfl (LW.M rfl ?_))))))))
       refine LW.g rfl rfl rfl rfl rfl rfl rfl (fun hc => PEv.move (.tmp rfl)) ?_
       refine LW.g rfl rfl rfl rfl rfl rfl rfl (fun hc => PEv.lss (by first | exact .tmp rfl | exact .cond rfl (by first | assumption | simp_all)) (.const _)) ?_
       refine LW.g rfl rfl rfl rfl rfl rfl rfl (fun hc => PEv.move (by first | exact .tmp rfl | exact .cond rfl (by first | assumption | simp_all))) ?_
       refine LW.gg rfl rfl rfl rfl rfl rfl rfl (fun hc => PEv.move (.tmp rfl)) ?_
       refine LW.gg rfl rfl rfl rfl rfl rfl rfl (fun hc => PEv.gtr (by first | exact .tmp rfl | exact .cond rfl (by first | assumption | simp_all)) (.const _)) ?_
       refine LW.g rfl rfl rfl rfl rfl rfl rfl (fun hc => PEv.pick_or (by first | exact .tmp rfl | exact .cond rfl (by first | assumption | simp_all)) (fun hp => (by first | exact .const _ | exact .tmp rfl | exact .cond rfl (by first | assumption | (rw [hp]; rfl) | (rw [hc, hp]; rfl) | simp_all)))) ?_
       refine LW.pp (PEv.pick_and (.tmp rfl) (fun hp => (by first | exact .const _ | exact .tmp rfl | exact .cond rfl (by first | assumption | (rw [hp]; rfl) | (rw [hc, hp]; rfl) | simp_all)))) ?_
       refine LW.T ?_
       refine CW.cond (.tmp rfl) (fun h57 => ?_) (fun h57 => ?_)
       ·first | replace h57 := dT h57 | replace h57 := dF h57 | skip
        have hcl : clears (devF b.Measures b.Targets r x time) = true := by simpa [clears] using h57
        have hdi := devF_in b.Measures b.Targets r x time
        have hbd := sumF_bd b.Measures b.Targets r time (a.take k)
        rw [← hEU] at hbd
        dsimp only at hbd
        rw [List.length_take] at hbd
        refine CW.seq ?_
        refine CW.free 12 [.eq (.pointer (some ⟨B6, 3, none⟩)), .eq (.agg (redF E 4).cells), .eq (vi (devF b.Measures b.Targets r x time).1), .eq (.tuple #[.agg (redF (devF b.Measures b.Targets r x time).1 4).cells, vi 0]), .eq (.agg (redF (devF b.Measures b.Targets r x time).1 4).cells), .eq (vi 0), .eq (.agg (redF (devF b.Measures b.Targets r x time).1 4).cells), .eq (.tuple #[.agg (redF (E + (devF b.Measures b.Targets r x time).1) 4).cells, vi 0]), .eq (.agg (redF (E + (devF b.Measures b.Targets r x time).1) 4).cells), .eq (vi 0), .eq (.agg (redF (E + (devF b.Measures b.Targets r x time).1) 4).cells), .eq (.pointer (some ⟨B6, 3, none⟩))] [69, 68] (by kernel_rfl) rfl (by kernel_rfl) (by kernel_rfl) (by kernel_rfl) (by kernel_rfl) (by kernel_rfl) (by kernel_rfl) (by kernel_rfl) ⟨PhU.eq _, PhU.eq _, PhU.eq _, PhU.eq _, PhU.eq _, PhU.eq _, PhU.eq _, PhU.eq _, PhU.eq _, PhU.eq _, PhU.eq _, PhU.eq _, trivial⟩ ?_ ?_
        ·intro W hU0
         have hU := (Up.drew w14).trans hU0
         have hSW := hS.up hU
         refine allL.cons ⟨rfl, TU.p (PEv.fieldAddr (off := 3) Tryz.underlying37 rfl rfl Tryz.sizeOf34 rfl (.tmp rfl)) rfl⟩ ?_
         refine allL.cons ⟨rfl, TU.p (PEv.loadA Tryz.isAgg34 Tryz.sizeOf34 rfl (.tmp rfl) (decV_est (hSW.blk 0 rfl))) rfl⟩ ?_
         refine allL.cons ⟨rfl, TU.p (PEv.move (.tmp rfl)) rfl⟩ ?_
         refine allL.cons ⟨rfl, TU.c (enter_call0 (.cons (.tmp rfl) (.cons (.const _) .nil)) (Tryz.en26)) (Make_any (devF b.Measures b.Targets r x time).1 4 W ⟨by omega, by omega⟩ (by decide) ⟨by decide, by decide⟩) (by rintro _ W1 ⟨rfl, u⟩; rw [mkF_fits (fits_small (by omega) (by decide))]; exact ⟨u, rfl⟩)⟩ ?_
         refine allL.cons ⟨rfl, TU.p (PEv.extract (.tmp rfl) rfl) rfl⟩ ?_
         refine allL.cons ⟨rfl, TU.p (PEv.extract (.tmp rfl) rfl) rfl⟩ ?_
         refine allL.cons ⟨rfl, TU.c (enter_call0 (.cons (.tmp rfl) (.cons (.tmp rfl) .nil)) (Tryz.en62)) (must_any (redF (devF b.Measures b.Targets r x time).1 4) W) (by rintro _ W1 ⟨rfl, u⟩; exact ⟨u, rfl⟩)⟩ ?_
         refine allL.cons ⟨rfl, TU.c (enter_call0 (.cons (.tmp rfl) (.cons (.tmp rfl) .nil)) (Tryz.en27)) (Add_any (redF E 4) (redF (devF b.Measures b.Targets r x time).1 4) W (redQ_ok (by omega)) (redQ_ok (by omega))) (by rintro _ W1 ⟨rfl, u⟩; rw [addQ_mk (by omega)]; exact ⟨u, rfl⟩)⟩ ?_
         refine allL.cons ⟨rfl, TU.p (PEv.extract (.tmp rfl) rfl) rfl⟩ ?_
         refine allL.cons ⟨rfl, TU.p (PEv.extract (.tmp rfl) rfl) rfl⟩ ?_
         refine allL.cons ⟨rfl, TU.c (enter_call0 (.cons (.tmp rfl) (.cons (.tmp rfl) .nil)) (Tryz.en62)) (must_any (redF (E + (devF b.Measures b.Targets r x time).1) 4) W) (by rintro _ W1 ⟨rfl, u⟩; exact ⟨u, rfl⟩)⟩ ?_
         refine allL.cons ⟨rfl, TU.p (PEv.fieldAddr (off := 3) Tryz.underlying37 rfl rfl Tryz.sizeOf34 rfl (.tmp rfl)) rfl⟩ ?_
         exact allL.nil
        ·intro w15 g hU0 hg
         have hU := (Up.drew w14).trans hU0
         have zw15 := hU.size
         replace hS := hS.up hU
         have e69 : g 69 = .pointer (some ⟨B6, 3, none⟩) := hg 11 _ 69 (by decide) rfl rfl
         have e68 : g 68 = .agg (redF (E + (devF b.Measures b.Targets r x time).1) 4).cells := hg 10 _ 68 (by decide) rfl rfl
         change LW _ _ _ _ _ _ _ _ ((69, .eq (g 69)) :: (68, .eq (g 68)) :: _) _
         rw [e69, e68]
         clear e69 e68 hg
         refine LW.s (SEv.storePart Tryz.sizeOf34 rfl (.tmp rfl) (.tmp rfl) (Rt.one _) (hS.blk 0 rfl) (Nat.le_of_ble_eq_true rfl)) rfl rfl rfl ?_
         intro w16 Nw16
         have zw16 := Nw16.size
         replace hS := hS.putB 0 rfl (show Set_ _ w16 _ (DecV.cells ⟨0, rz, redF (E + (devF b.Measures b.Targets r x time).1) 4, v⟩) _ from Nw16)
         change Wx.Sep _ _ _ [_, _, _] at hS
         refine LW.T (CW.region ?_)
         refine LW.pp (PEv.fieldAddr (off := 5) Tryz.underlying37 rfl rfl Tryz.sizeOf35 rfl (.tmp rfl)) ?_
         refine LW.pp (PEv.load Tryz.isAgg35 (.tmp rfl) ((hS.blk 0 rfl).celln rfl)) ?_
         refine LW.pp (PEv.fieldAddr (off := 1) Tryz.underlying50 rfl rfl Tryz.sizeOf3 rfl (.tmp rfl)) ?_
         refine LW.pp (PEv.load Tryz.isAgg3 (.tmp rfl) ((hS.blk 2 rfl).celln rfl)) ?_
         refine LW.r (REv.buildSlice (xs := [x.ID]) (enc := eInt) (mk := vi) Tryz.underlying35 Tryz.sizeOf3 Tryz.zeroValue3 rfl (by decide) (fun _ => rfl) (fun _ => rfl) (.cons (.tmp rfl) .nil) rfl) rfl rfl rfl rfl ?_
         rintro _ w17 ⟨B74, cB74, rfl, NB74, yB74, xB74⟩
         have eB74 := NB74.at_
         have zB74 := NB74.size
         replace hS := hS.up NB74.up
         have hE74 := xB74
         refine LW.r (REv.appendF (enc := eInt) (bytes := 8) (i := Tryz.t3) Tryz.underlying35 (by kernel_rfl) rfl rfl rfl rfl (by decide) (fun _ => rfl) eInt_one (.tmp rfl) (.tmp rfl) (hS.own 1 rfl) (Sl.of_els hE74) (by simp [maxLen]; omega) (by simp; omega)) rfl rfl rfl rfl ?_
         intro v75 w18 Gw18
         have zw18 := Gw18.fr.size
         replace hS := hS.stp 1 rfl Gw18
         change Wx.Sep _ _ _ [_, _, _] at hS
         refine LW.pp (PEv.fieldAddr (off := 5) Tryz.underlying37 rfl rfl Tryz.sizeOf35 rfl (.tmp rfl)) ?_
         refine LW.s (SEv.store Tryz.sizeOf35 (.tmp rfl) (.tmp rfl) ((hS.own 1 rfl).oneV (fun _ => rfl)) (hS.blk 0 rfl) (Nat.le_of_ble_eq_true rfl)) rfl rfl rfl ?_
         intro w19 Nw19
         have zw19 := Nw19.size
         replace hS := hS.putB 0 rfl (show Set_ _ w19 _ (DecV.cells ⟨0, rz, redF (E + (devF b.Measures b.Targets r x time).1) 4, v75⟩) _ from Nw19)
         change Wx.Sep _ _ _ [_, _, _] at hS
         refine LW.nil (KW.inBlock (KW.then (CW.region ?_)))
         refine LW.pp (PEv.inc (.tmp rfl) (by omega)) ?_
         refine LW.M rfl (LW.nil (KW.round ?_))
         first | exact ⟨(k + 1, v75, E + (devF b.Measures b.Targets r x time).1, U ++ [x.ID]), ⟨by show k + 1 ≤ _; omega, by rw [sumF_take hx, ← hEU, sum_yes hcl], hS.take 2⟩, ⟨rfl, rfl, rfl, rfl, rfl, rfl, trivial⟩, by show a.length - (k + 1) < a.length - k; omega⟩ | exact ⟨(k + 1, v, E, U), ⟨by show k + 1 ≤ _; omega, by rw [sumF_take hx, ← hEU, sum_no hcl], hS.take 2⟩, ⟨rfl, rfl, rfl, rfl, rfl, rfl, trivial⟩, by show a.length - (k + 1) < a.length - k; omega⟩
       ·first | replace h57 := dT h57 | replace h57 := dF h57 | skip
        have hcl : clears (devF b.Measures b.Targets r x time) = false := by simpa [clears] using h57
        refine CW.skip (KW.inBlock (KW.then (CW.region ?_)))
        refine LW.pp (PEv.inc (.tmp rfl) (by omega)) ?_
        refine LW.M rfl (LW.nil (KW.round ?_))
        first | exact ⟨(k + 1, v75, E + (devF b.Measures b.Targets r x time).1, U ++ [x.ID]), ⟨by show k + 1 ≤ _; omega, by rw [sumF_take hx, ← hEU, sum_yes hcl], hS.take 2⟩, ⟨rfl, rfl, rfl, rfl, rfl, rfl, trivial⟩, by show a.length - (k + 1) < a.length - k; omega⟩ | exact ⟨(k + 1, v, E, U), ⟨by show k + 1 ≤ _; omega, by rw [sumF_take hx, ← hEU, sum_no hcl], hS.take 2⟩, ⟨rfl, rfl, rfl, rfl, rfl, rfl, trivial⟩, by show a.length - (k + 1) < a.length - k; omega⟩
      ·first | replace h39 := dT h39 | replace h39 := dF h39 | skip
       refine CW.exit (KW.then_exit (KW.then_exit (KW.block_hit (KW.then (CW.seq ?_)))))
       have hti := tarF_in b.Targets r time
       have hkl : k = a.length := by omega
       rw [hkl, List.take_length] at hEU
       have hbd := sumF_bd b.Measures b.Targets r time a
       rw [← hEU] at hbd
       dsimp only at hbd
       refine CW.free 11 [.eq (.agg (placeC bc t c r)), .eq (vi time), .eq (vi (tarF b.Targets r time)), .eq (.agg (redF (tarF b.Targets r time) 1).cells), .eq (.pointer (some ⟨B6, 3, none⟩)), .eq (.agg (redF E 4).cells), .eq (.tuple #[.agg (redF (4 * tarF b.Targets r time - E) 4).cells, vi 0]), .eq (.agg (redF (4 * tarF b.Targets r time - E) 4).cells), .eq (vi 0), .eq (.agg (redF (4 * tarF b.Targets r time - E) 4).cells), .pred fun v W => ∃ B, v = .pointer (some ⟨B, 0, none⟩) ∧ w11.drew.heap.size ≤ B ∧ Blk W B rz.cells 34] [14, 87] (by kernel_rfl) rfl (by kernel_rfl) (by kernel_rfl) (by kernel_rfl) (by kernel_rfl) (by kernel_rfl) (by kernel_rfl) (by kernel_rfl) ⟨PhU.eq _, PhU.eq _, PhU.eq _, PhU.eq _, PhU.eq _, PhU.eq _, PhU.eq _, PhU.eq _, PhU.eq _, PhU.eq _, PhU.pred fun _ _ _ h u => let ⟨B, e, hz, hb⟩ := h; ⟨B, e, hz, hb.up u⟩, trivial⟩ ?_ ?_
       ·intro W hU0
        have hU := (Up.drew w11).trans hU0
        have hSW := hS.up hU
        have zU0 := hU0.size
        refine allL.cons ⟨rfl, TU.p (PEv.loadA Tryz.isAgg68 Tryz.sizeOf68 (placeC_size hC t c r) (.tmp rfl) ((hB3f W hSW.fr).agg)) rfl⟩ ?_
        refine allL.cons ⟨rfl, TU.p (PEv.move (.tmp rfl)) rfl⟩ ?_
        refine allL.cons ⟨rfl, TU.c (enter_call0 (.cons (.tmp rfl) (.cons (.tmp rfl) .nil)) (Tryz.en64)) (ptarget_any bc b t c r time W (hC.up (hUp W hSW.fr)) hlT) (by rintro _ W1 ⟨rfl, u⟩; exact ⟨u, rfl⟩)⟩ ?_
        refine allL.cons ⟨rfl, TU.c (enter_call0 (.cons (.tmp rfl) .nil) (Tryz.en60)) (whole_any (tarF b.Targets r time) W (by omega)) (by rintro _ W1 ⟨rfl, u⟩; exact ⟨u, rfl⟩)⟩ ?_
        refine allL.cons ⟨rfl, TU.p (PEv.fieldAddr (off := 3) Tryz.underlying37 rfl rfl Tryz.sizeOf34 rfl (.tmp rfl)) rfl⟩ ?_
        refine allL.cons ⟨rfl, TU.p (PEv.loadA Tryz.isAgg34 Tryz.sizeOf34 rfl (.tmp rfl) (decV_est (hSW.blk 0 rfl))) rfl⟩ ?_
        refine allL.cons ⟨rfl, TU.c (enter_call0 (.cons (.tmp rfl) (.cons (.tmp rfl) .nil)) (Tryz.en63)) (Sub_any (redF (tarF b.Targets r time) 1) (redF E 4) W (red1_ok (by omega)) (redQ_ok (by omega))) (by rintro _ W1 ⟨rfl, u⟩; refine ⟨u, ?_⟩; have e := subQ_mk (T := tarF b.Targets r time) (e := E) (by omega); unfold negR at e; rw [e]; rfl)⟩ ?_
        refine allL.cons ⟨rfl, TU.p (PEv.extract (.tmp rfl) rfl) rfl⟩ ?_
        refine allL.cons ⟨rfl, TU.p (PEv.extract (.tmp rfl) rfl) rfl⟩ ?_
        refine allL.cons ⟨rfl, TU.c (enter_call0 (.cons (.tmp rfl) (.cons (.tmp rfl) .nil)) (Tryz.en62)) (must_any (redF (4 * tarF b.Targets r time - E) 4) W) (by rintro _ W1 ⟨rfl, u⟩; exact ⟨u, rfl⟩)⟩ ?_
        refine allL.cons ⟨rfl, TU.r (REv.allocA Tryz.zeroValue34) (fun v W' h => let ⟨B, e, N⟩ := h; ⟨N.up, B, e, by rw [N.at_]; exact zU0, N.blk⟩)⟩ ?_
        exact allL.nil
       ·intro w20 g hU0 hg
        have hU := (Up.drew w11).trans hU0
        have zw20 := hU.size
        obtain ⟨B14, e14, z14, hB14⟩ : ∃ B, g 14 = .pointer (some ⟨B, 0, none⟩) ∧ w11.drew.heap.size ≤ B ∧ Blk w20 B rz.cells 34 := hg 10 _ 14 (by decide) rfl rfl
        have e87 : g 87 = .agg (redF (4 * tarF b.Targets r time - E) 4).cells := hg 9 _ 87 (by decide) rfl rfl
        change LW _ _ _ _ _ _ _ _ ((14, .eq (g 14)) :: (87, .eq (g 87)) :: _) _
        rw [e14, e87]
        clear e14 e87 hg
        replace hS := (hS.up (Up.drew _)).add hU0 (A' := aBlk B14 rz.cells 34) hB14 (fun i (e : i = B14) => by omega)
        change Wx.Sep _ _ _ [_, _, _] at hS
        refine LW.s (SEv.storeA Tryz.sizeOf34 rfl (.tmp rfl) (.tmp rfl) (Rt.one _) (hS.blk 2 rfl) rfl) rfl rfl rfl ?_
        intro w21 Nw21
        have zw21 := Nw21.size
        replace hS := hS.putB 2 rfl (show Set_ _ w21 _ ((redF (4 * tarF b.Targets r time - E) 4).cells) _ from Nw21)
        change Wx.Sep _ _ _ [_, _, _] at hS
        refine LW.S (CW.region ?_)
        refine LW.pp (PEv.loadA Tryz.isAgg34 Tryz.sizeOf34 rfl (.tmp rfl) ((hS.blk 2 rfl).agg)) ?_
        refine LW.c (enter_call0 (.cons (.tmp rfl) (.cons (.const _) .nil)) (Tryz.en66)) rfl rfl rfl rfl (Round_any (redF (4 * tarF b.Targets r time - E) 4) 1000 _ (redQ_ok (by omega)) (by decide)) ?_
        rintro _ w22 ⟨rfl, uw22⟩
        have zw22 := uw22.size
        replace hS := hS.up uw22
        rw [rndQ_mk (by omega)]
        refine LW.pp (PEv.extract (.tmp rfl) rfl) (LW.pp (PEv.extract (.tmp rfl) rfl) ?_)
        refine LW.c (enter_call0 (.cons (.tmp rfl) (.cons (.tmp rfl) .nil)) (Tryz.en62)) rfl rfl rfl rfl (must_any (redF (4 * tarF b.Targets r time - E) 4) _) ?_
        rintro _ w23 ⟨rfl, uw23⟩
        have zw23 := uw23.size
        replace hS := hS.up uw23
        refine LW.c (enter_call0 (.cons (.const _) .nil) (Tryz.en60)) rfl rfl rfl rfl (whole_any (-10000) _ (by decide)) ?_
        rintro _ w24 ⟨rfl, uw24⟩
        have zw24 := uw24.size
        replace hS := hS.up uw24
        refine LW.c (enter_call0 (.cons (.const _) .nil) (Tryz.en60)) rfl rfl rfl rfl (whole_any (10000) _ (by decide)) ?_
        rintro _ w25 ⟨rfl, uw25⟩
        have zw25 := uw25.size
        replace hS := hS.up uw25
        refine LW.c (enter_call0 (.cons (.tmp rfl) (.cons (.tmp rfl) (.cons (.tmp rfl) .nil))) (Tryz.en65)) rfl rfl rfl rfl (Clamp_any (redF (4 * tarF b.Targets r time - E) 4) _ _ _ (redQ_ok (by omega)) (red1_ok (by decide)) (red1_ok (by decide))) ?_
        rintro _ w26 ⟨rfl, uw26⟩
        have zw26 := uw26.size
        replace hS := hS.up uw26
        refine LW.pp (PEv.fieldAddr (off := 1) Tryz.underlying37 rfl rfl Tryz.sizeOf34 rfl (.tmp rfl)) ?_
        refine LW.s (SEv.storePart Tryz.sizeOf34 rfl (.tmp rfl) (.tmp rfl) (Rt.one _) (hS.blk 0 rfl) (Nat.le_of_ble_eq_true rfl)) rfl rfl rfl ?_
        intro w27 Nw27
        have zw27 := Nw27.size
        replace hS := hS.putB 0 rfl (show Set_ _ w27 _ (DecV.cells ⟨0, parF (tarF b.Targets r time) E, redF E 4, v⟩) _ from Nw27)
        change Wx.Sep _ _ _ [_, _, _] at hS
        refine LW.S (CW.region ?_)
        refine LW.pp (PEv.loadA Tryz.isAgg37 Tryz.sizeOf37 rfl (.tmp rfl) ((hS.blk 0 rfl).agg)) ?_
        refine LW.s (SEv.storeA Tryz.sizeOf37 rfl (.tmp rfl) (.tmp rfl) (decV_one _ ((hS.own 1 rfl).oneV (fun _ => rfl))) (hS.blk 0 rfl) rfl) rfl rfl rfl ?_
        intro w28 Nw28
        have zw28 := Nw28.size
        replace hS := hS.putB 0 rfl (show Set_ _ w28 _ (DecV.cells ⟨0, parF (tarF b.Targets r time) E, redF E 4, v⟩) _ from Nw28)
        change Wx.Sep _ _ _ [_, _, _] at hS
        refine LW.T (CW.ret ?_)
        refine KW.retA rfl rfl Tryz.isAgg37 Tryz.sizeOf37 rfl ((hS.blk 0 rfl).agg) ⟨_, rfl, ?_⟩
        subst eRS
        rw [ha] at hEU
        have e1 : decF b t c r time ahead = ⟨0, parF (tarF b.Targets r time) E, redF E 4, U⟩ := by unfold decF; rw [← hEU]
        rw [e1]
        have huz := (hUp _ hS.fr)
        exact ⟨v, rfl, (hS.own 1 rfl).rebase (fun i h => (hS.foot 1 rfl i h).elim (fun e => by omega) (fun h => Nat.le_trans (by rw [ewL]; exact hUL.size) h)), huz⟩
end Go.Proofs.YtgffaeachbbjoaaGreatDoor
end
section
namespace Go.Wx
section
variable {P : Program} {n : Nat} {l : Env} {w : World} {fn : Func} {RR : Ending → World → Prop}
theorem KW.retBB {t u : Tmp} {T T' : TypeId} {B B' : Nat} {y x : Value} (hr : fn.results = #[.cell t T, .cell u T']) (hv : lk l t = some (.eq (.pointer (some ⟨B, 0, none⟩)))) (hu : lk l u = some (.eq (.pointer (some ⟨B', 0, none⟩)))) (hT : ∀ w, (isAgg T).run P w = .ok false w) (hy : w.cell? ⟨B, 0, none⟩ = some y)
    (hT' : ∀ w, (isAgg T').run P w = .ok false w) (hx : w.cell? ⟨B', 0, none⟩ = some x) (hR : RR (.returned (.tuple #[y, x])) w) : KW n [] (bodyPost P fn RR .ret) l w := fun a ha =>
  ⟨ha.defers, .tuple #[y, x], by
    have h1 : a.tmps.getD t undef = .pointer (some ⟨B, 0, none⟩) := ha.val _ _ hv
    have h2 : a.tmps.getD u undef = .pointer (some ⟨B', 0, none⟩) := ha.val _ _ hu
    rw [Array.getD_eq_getD_getElem?] at h1 h2
    simp [results, hr, h1, h2, asAddr, run_loadVar1 hT hy, run_loadVar1 hT' hx], hR⟩
theorem KW.retATT {t u s : Tmp} {T : TypeId} {B k : Nat} {cs : Array Value} {x y : Value} (hr : fn.results = #[.cell t T, .tmp u, .tmp s]) (hv : lk l t = some (.eq (.pointer (some ⟨B, 0, none⟩)))) (hu : lk l u = some (.eq x)) (hs' : lk l s = some (.eq y)) (hT : ∀ w, (isAgg T).run P w = .ok true w) (hs : ∀ w, (sizeOf T).run P w = .ok k w) (hk : cs.size = k)
    (hc : AggAt w B 0 cs) (hR : RR (.returned (.tuple #[.agg cs, x, y])) w) : KW n [] (bodyPost P fn RR .ret) l w := fun a ha =>
  ⟨ha.defers, .tuple #[.agg cs, x, y], by
    have h1 : a.tmps.getD t undef = .pointer (some ⟨B, 0, none⟩) := ha.val _ _ hv
    have h2 : a.tmps.getD u undef = x := ha.val _ _ hu
    have h3 : a.tmps.getD s undef = y := ha.val _ _ hs'
    rw [Array.getD_eq_getD_getElem?] at h1 h2 h3
    simp [results, hr, h1, h2, h3, asAddr, run_loadVarA hT hs hk hc], hR⟩
end
theorem Sep.add2 {S0 : Nat → Prop} {w0 w w' : World} {As : List Asr} {A B : Asr} (h : Sep S0 w0 w As) (u : Up w w') (h1 : A.holds w') (h2 : B.holds w') (n1 : ∀ i, A.foot i → w.heap.size ≤ i) (n2 : ∀ i, B.foot i → w.heap.size ≤ i) (hd : ∀ i, A.foot i → ¬ B.foot i) : Sep S0 w0 w' (As ++ [A, B]) := by
  have h3 := h.add u (A' := aAnd [A, B]) ⟨fun C hC => by simp at hC; rcases hC with rfl | rfl <;> assumption, by simpa using hd⟩ (fun i ⟨C, hC, hi⟩ => by simp at hC; rcases hC with rfl | rfl <;> first | exact n1 i hi | exact n2 i hi)
  have h4 := Sep.unfold (Bs := As) (As := [A, B]) (rest := []) h3
  simpa using h4
theorem Sep.snocA {S0 : Nat → Prop} {w0 w : World} {Bs As : List Asr} {A : Asr} (h : Sep S0 w0 w (Bs ++ [aAnd As, A])) : Sep S0 w0 w (Bs ++ [aAnd (As ++ [A])]) := by
  have h1 := Sep.unfold (Bs := Bs) (As := As) (rest := [A]) h
  have h2 := Sep.fold (Bs := Bs) (As := As ++ [A]) (rest := []) (by simpa using h1)
  exact h2
theorem own_blk {α : Type} {enc : α → Array Value} {w : World} {b e k B : Nat} {v : Value} {xs : List α} {cs : Array Value} {T : TypeId} (h : OwnS w b e k enc v xs) (hb : Blk w B cs T) (hT : e ≠ T) : v.ownBlock ≠ some B := fun hv => by
  obtain ⟨h1, h2⟩ := h
  rcases h2 with h2 | ⟨g, cap, cur, rfl, hb2, hg, rest⟩
  · rw [h2.1] at hv; cases hv
  · cases hv
    have := hg.symm.trans hb
    cases this
    exact hT rfl
structure DP where
  dec : Dec
  ad : Option Addr
  cp : Nat
def DP.uv (p : DP) : Value := .slice p.ad p.dec.uses.length p.cp
def DP.cells (p : DP) : Array Value := (p.dec.v p.uv).cells
theorem DP.one (p : DP) : p.cells.all (·.oneCell') = true := decV_one _ rfl
def usesA (ti : TypeId) (L : List DP) : List Asr := L.map fun p => aOwn ti 1 eInt p.uv p.dec.uses
theorem usesA_snoc (ti : TypeId) (L : List DP) (p : DP) : usesA ti L ++ [aOwn ti 1 eInt p.uv p.dec.uses] = usesA ti (L ++ [p]) := by unfold usesA; rw [List.map_append]; rfl
theorem usesA_get {ti : TypeId} {L : List DP} {w : World} (h : (aAnd (usesA ti L)).holds w) : ∀ p ∈ L, Sl w p.uv 1 eInt p.dec.uses := fun p hp => OwnS.sl (show OwnS w 0 ti 1 eInt p.uv p.dec.uses from h.1 _ (List.mem_map.2 ⟨p, hp, rfl⟩)) (fun _ => rfl)
def DecE (w : World) (v : Value) (D : Dec) : Prop := ∃ ad cp, v = .agg (DP.cells ⟨D, ad, cp⟩) ∧ Sl w (.slice ad D.uses.length cp) 1 eInt D.uses
def DecsE (w : World) (v : Value) (Ds : List Dec) : Prop := ∃ L : List DP, Sl w v 6 DP.cells L ∧ (∀ p ∈ L, Sl w p.uv 1 eInt p.dec.uses) ∧ L.map DP.dec = Ds
def dec0 : Dec := ⟨0, rz, rz, []⟩
def decAt (b : Base) (t c r : Int) (rs : List Fact) (i : Nat) : Dec := match rs[i]? with
  | some x => { decF b t c r x.Time (rs.take i) with run := x.ID }
  | none => dec0
theorem decAt_some {b : Base} {t c r : Int} {rs : List Fact} {i : Nat} {x : Fact} (h : rs[i]? = some x) : decAt b t c r rs i = { decF b t c r x.Time (rs.take i) with run := x.ID } := by unfold decAt; rw [h]
def desF (b : Base) (t c r : Int) : List Dec := (List.range (rnsF b t c r).length).map (decAt b t c r (rnsF b t c r))
theorem desF_len (b : Base) (t c r : Int) : (desF b t c r).length = (rnsF b t c r).length := by unfold desF; rw [List.length_map, List.length_range]
theorem desF_at {b : Base} {t c r : Int} {i : Nat} {x : Fact} (h : (rnsF b t c r)[i]? = some x) : (desF b t c r)[i]? = some { decF b t c r x.Time ((rnsF b t c r).take i) with run := x.ID } := by
  have hi := (List.getElem?_eq_some_iff.1 h).1
  unfold desF
  rw [List.getElem?_map, List.getElem?_range hi]
  exact congrArg some (decAt_some h)
theorem map_range_succ {α : Type} (f : Nat → α) (k : Nat) : (List.range (k + 1)).map f = (List.range k).map f ++ [f k] := by rw [List.range_succ, List.map_append]; rfl
def decNow (b : Base) (t c r time : Int) : Dec := decF b t c r time ((rnsF b t c r).filter fun x => decide (x.Time ≤ time))
theorem BaseC.lit {w : World} {bc : Array Value} {b : Base} (h : BaseC w bc b) : ∃ v0 v1 v2 v3 v4 v5 v6 v7 v8 v9 v10, bc = #[v0, v1, v2, v3, v4, v5, v6, v7, v8, v9, v10] := by
  obtain ⟨v0, v1, v2, v3, v4, v5, v6, v7, v8, v9, v10, e, _⟩ := h
  exact ⟨v0, v1, v2, v3, v4, v5, v6, v7, v8, v9, v10, e⟩
theorem decF_uses (b : Base) (t c r time : Int) (a : List Fact) : (decF b t c r time a).uses.length ≤ a.length := Nat.le_trans (sumF_bd b.Measures b.Targets r time (sinceF (resL b t c time) a)).2.2 (sinceF_len _ _)
def IdxD (g : DP → Bool) (l : List DP) (i : Int) : Prop := (∃ k x, i = ((k : Nat) : Int) ∧ l[k]? = some x ∧ g x = true ∧ ∀ y ∈ l.take k, g y = false) ∨ (i = -1 ∧ ∀ y ∈ l, g y = false)
theorem noneD_take {p : DP → Bool} {l : List DP} {k : Nat} {x : DP} (h : l[k]? = some x) (hk : ∀ y ∈ l.take k, p y = false) (hx : p x = false) : ∀ y ∈ l.take (k + 1), p y = false := fun y hy => by
  rw [List.take_add_one, h] at hy
  rcases List.mem_append.1 hy with hy | hy
  · exact hk y hy
  · cases List.mem_singleton.1 hy; exact hx
def rtB (a b : Rt) : Bool := (a.n == b.n) && ((a.d == b.d) && true)
theorem rtB_iff (a b : Rt) : rtB a b = true ↔ a = b := by
  obtain ⟨an, ad⟩ := a
  obtain ⟨bn, bd⟩ := b
  unfold rtB
  simp
theorem rtB_self (a : Rt) : rtB a a = true := (rtB_iff a a).2 rfl
def expF (b : Base) (id : Int) : Dec × Bool × Int := match procB b id with
  | none => (dec0, false, 200)
  | some f => match (desF b f.Tool f.Chamber f.Recipe).find? fun D => decide (D.run = id) with
    | none => (dec0, false, 200)
    | some D => (D, decide ((mkF f.Value 1000).2 = 0) && rtB (mkF f.Value 1000).1 D.par, 0)
theorem expF_none {b : Base} {id : Int} (h : procB b id = none) : expF b id = (dec0, false, 200) := by unfold expF; rw [h]
theorem expF_no {b : Base} {id : Int} {f : Fact} {L : List DP} (h : procB b id = some f) (hL : L.map DP.dec = desF b f.Tool f.Chamber f.Recipe) (hn : ∀ y ∈ L, decide (y.dec.run = id) = false) : expF b id = (dec0, false, 200) := by
  have e : ((desF b f.Tool f.Chamber f.Recipe).find? fun D => decide (D.run = id)) = none := by
    rw [← hL]
    refine List.find?_eq_none.2 fun D hD => ?_
    obtain ⟨y, hy, rfl⟩ := List.mem_map.1 hD
    rw [hn y hy]; exact Bool.false_ne_true
  unfold expF; rw [h]; dsimp only; rw [e]
theorem find_map {L : List DP} {k : Nat} {x : DP} {q : Dec → Bool} (hx : L[k]? = some x) (hq : q x.dec = true) (hn : ∀ y ∈ L.take k, q y.dec = false) : (L.map DP.dec).find? q = some x.dec := by
  have hlt := (List.getElem?_eq_some_iff.1 hx).1
  have e : L = L.take k ++ x :: L.drop (k + 1) := by
    have h1 : L.drop k = x :: L.drop (k + 1) := by
      rw [List.drop_eq_getElem_cons hlt, (List.getElem?_eq_some_iff.1 hx).2]
    rw [← h1, List.take_append_drop]
  rw [e, List.map_append, List.map_cons, List.find?_append, List.find?_eq_none.2 (fun D hD => by
    obtain ⟨y, hy, rfl⟩ := List.mem_map.1 hD
    rw [hn y hy]; exact Bool.false_ne_true), List.find?_cons, hq]
  rfl
theorem expF_some {b : Base} {id : Int} {f : Fact} {L : List DP} {k : Nat} {x : DP} (h : procB b id = some f) (hL : L.map DP.dec = desF b f.Tool f.Chamber f.Recipe) (hx : L[k]? = some x) (hr : decide (x.dec.run = id) = true) (hn : ∀ y ∈ L.take k, decide (y.dec.run = id) = false) :
    expF b id = (x.dec, decide ((mkF f.Value 1000).2 = 0) && rtB (mkF f.Value 1000).1 x.dec.par, 0) := by
  have e := find_map (q := fun D => decide (D.run = id)) hx hr hn
  rw [hL] at e
  unfold expF; rw [h]; dsimp only; rw [e]
theorem Sep.join {S0 : Nat → Prop} {w0 w w' : World} {As Bs : List Asr} (h : Sep S0 w0 w As) (k : Sep no w w' Bs) : Sep S0 w0 w' (As ++ Bs) := by
  have h3 := h.add k.upd (A' := aAnd Bs) ⟨fun A hA => (k.each A hA).1, k.apart⟩ (fun i ⟨A, hA, hi⟩ => ((k.each A hA).2 i hi).resolve_left (fun h => h))
  have h4 := Sep.unfold (Bs := As) (As := Bs) (rest := []) h3
  simpa using h4
theorem dp_par {w : World} {B o : Nat} {p : DP} (h : AggAt w B o p.cells) : AggAt w B (o + 1) p.dec.par.cells := fun j v hv => by
  have h2 : p.cells[1 + j]? = some v := by
    match j with
    | 0 => simpa [Rt.cells, DP.cells, DecV.cells, Dec.v] using hv
    | 1 => simpa [Rt.cells, DP.cells, DecV.cells, Dec.v] using hv
    | j + 2 => simp [Rt.cells] at hv
  have := h (1 + j) v h2
  rwa [show o + (1 + j) = o + 1 + j by omega] at this
theorem decsE_of {w w' : World} {ti tD : TypeId} {v : Value} {L : List DP} {Ds : List Dec} (h : Sep no w w' [aOwn tD 6 DP.cells v L, aAnd (usesA ti L)]) (e : L.map DP.dec = Ds) : DecsE w' v Ds := ⟨L, (h.own 0 rfl).sl (fun _ => rfl), usesA_get (h.get 1 rfl), e⟩
end Go.Wx
namespace Go.Proofs.YtgffaeachbbjoaaGreatDoor
open Go.Wx Go.RowKit
set_option maxRecDepth 4000 in
theorem Tryz.eqRt (a b : Rt) (w : World) : (Op.equalIn 10000 34 (.agg a.cells) (.agg b.cells)).run Tryz.prog w = .ok (rtB a b) w := by
  have hf : Tryz.prog.underlying 34 = some (.struct (Tryz.prog.fieldsOf 34)) := by rw [Program.fieldsOf, Tryz.underlying34]
  rw [run_equalIn_agg w 9999 34 _ _ hf Tryz.stoodInHeld34]
  have h : (Op.eqFields 9999 a.cells b.cells (Tryz.prog.fieldsOf 34).toList).run Tryz.prog w = .ok (rtB a b) w := by
    rw [Program.fieldsOf, Tryz.underlying34]
    dsimp only
    iterate 2 (refine eqStep (by decide) Tryz.isAgg3 rfl rfl (run_equalIn_int w 9998 _ _ _ _ _ Tryz.underlying3) ?_)
    rfl
  exact h
theorem desD_any (B3 B2 : Nat) (w : World) (ho : Blk w B3 #[vi 0] 38) : RetD Tryz.prog 82 #[.pointer (some ⟨B3, 0, none⟩), .pointer (some ⟨B2, 0, none⟩)] w fun w' => Stp (aBlk B3 #[vi 0] 38) (aBlk B3 #[vi 0] 38) w w' := by
  obtain ⟨w0, rfl⟩ : ∃ w0, w0 = w := ⟨_, rfl⟩
  have hS : Wx.Sep (aBlk B3 #[vi 0] 38).foot w0 w0 [aBlk B3 #[vi 0] 38] := Sep.cons ho (fun _ h => h) (Sep.start _ _) (by simp)
  refine CallsD_start (n := 6) (args := [.pointer (some ⟨B3, 0, none⟩), .pointer (some ⟨B2, 0, none⟩)]) Tryz.func82 rfl rfl rfl ?_
  refine DW.seq (m := 9) (DW.region ?_)
  refine DL.rec (fun a => run_recover) rfl rfl rfl ?_
  refine DL.c (enter_call0 (.cons (.tmp rfl) .nil) (Tryz.en32)) rfl rfl rfl rfl (failed0_any _) ?_
  rintro _ w1 ⟨rfl, uw1⟩
  have zw1 := uw1.size
  replace hS := hS.up uw1
  refine DL.s (SEv.store Tryz.sizeOf38 (.tmp rfl) (.tmp rfl) rfl (hS.blk 0 rfl) (Nat.le_of_ble_eq_true rfl)) rfl rfl rfl ?_
  intro w2 Nw2
  have zw2 := Nw2.size
  replace hS := hS.putB 0 rfl (show Set_ _ w2 _ (#[vi 0]) _ from Nw2)
  change Wx.Sep _ _ _ [_] at hS
  refine DL.nil ?_
  refine KW.then (CW.S ?_)
  refine LW.pp (PEv.load Tryz.isAgg38 (.tmp rfl) ((hS.blk 0 rfl).celln rfl)) ?_
  refine LW.pp (PEv.neq (.tmp rfl) (.const _)) ?_
  refine LW.T ?_
  refine CW.cond_false (.tmp rfl) ?_
  refine CW.skip ?_
  refine KW.end0 rfl ⟨_, rfl, ?_⟩
  exact ⟨hS.fr, hS.get 0 rfl, fun _ h => .inl h⟩
theorem decD_any (B11 B10 : Nat) (w : World) (ho : Blk w B11 #[vi 0] 38) : RetD Tryz.prog 31 #[.pointer (some ⟨B11, 0, none⟩), .pointer (some ⟨B10, 0, none⟩)] w fun w' => Stp (aBlk B11 #[vi 0] 38) (aBlk B11 #[vi 0] 38) w w' := by
  obtain ⟨w0, rfl⟩ : ∃ w0, w0 = w := ⟨_, rfl⟩
  have hS : Wx.Sep (aBlk B11 #[vi 0] 38).foot w0 w0 [aBlk B11 #[vi 0] 38] := Sep.cons ho (fun _ h => h) (Sep.start _ _) (by simp)
  refine CallsD_start (n := 7) (args := [.pointer (some ⟨B11, 0, none⟩), .pointer (some ⟨B10, 0, none⟩)]) Tryz.func31 rfl rfl rfl ?_
  refine DW.seq (m := 9) (DW.region ?_)
  refine DL.rec (fun a => run_recover) rfl rfl rfl ?_
  refine DL.c (enter_call0 (.cons (.tmp rfl) .nil) (Tryz.en32)) rfl rfl rfl rfl (failed0_any _) ?_
  rintro _ w1 ⟨rfl, uw1⟩
  have zw1 := uw1.size
  replace hS := hS.up uw1
  refine DL.s (SEv.store Tryz.sizeOf38 (.tmp rfl) (.tmp rfl) rfl (hS.blk 0 rfl) (Nat.le_of_ble_eq_true rfl)) rfl rfl rfl ?_
  intro w2 Nw2
  have zw2 := Nw2.size
  replace hS := hS.putB 0 rfl (show Set_ _ w2 _ (#[vi 0]) _ from Nw2)
  change Wx.Sep _ _ _ [_] at hS
  refine DL.nil ?_
  refine KW.then (CW.S ?_)
  refine LW.pp (PEv.load Tryz.isAgg38 (.tmp rfl) ((hS.blk 0 rfl).celln rfl)) ?_
  refine LW.pp (PEv.neq (.tmp rfl) (.const _)) ?_
  refine LW.T ?_
  refine CW.cond_false (.tmp rfl) ?_
  refine CW.skip ?_
  refine KW.end0 rfl ⟨_, rfl, ?_⟩
  exact ⟨hS.fr, hS.get 0 rfl, fun _ h => .inl h⟩
theorem decisions_any (bc : Array Go.Value) (b : Base) (t c r : Int) (w : World) (hC : BaseC w bc b) (hlP : b.Processes.length ≤ 400) (hlR : b.Resets.length ≤ 100000) (hlM : b.Measures.length ≤ 100000) (hlT : b.Targets.length ≤ 100000) : Ret Tryz.prog 39 #[.agg (placeC bc t c r)] w fun r0 w' => ∃ v L, r0 = .tuple #[v, vi 0] ∧ L.map DP.dec = desF b t c r ∧ Wx.Sep no w w' [aOwn 37 6 DP.cells v L, aAnd (usesA 3 L)] := by
  obtain ⟨w0, rfl⟩ : ∃ w0, w0 = w := ⟨_, rfl⟩
  have hS := Sep.start no w0
  refine Calls_startD (n := 34) (m := 9) Tryz.func39 rfl rfl rfl ?_
  refine CW.S ?_
  refine LW.r (REv.boxA (.tmp rfl)) rfl rfl rfl rfl ?_
  rintro _ w1 ⟨B1, rfl, NB1⟩
  have eB1 := NB1.at_
  have zB1 := NB1.size
  replace hS := hS.addB NB1
  change Wx.Sep _ _ _ [_] at hS
  refine LW.r (REv.alloc1 Tryz.zeroValue43 rfl) rfl rfl rfl rfl ?_
  rintro _ w2 ⟨B2, rfl, NB2⟩
  have eB2 := NB2.at_
  have zB2 := NB2.size
  replace hS := hS.addB NB2
  change Wx.Sep _ _ _ [_, _] at hS
  refine LW.r (REv.alloc1 Tryz.zeroValue38 rfl) rfl rfl rfl rfl ?_
  rintro _ w3 ⟨B3, rfl, NB3⟩
  have eB3 := NB3.at_
  have zB3 := NB3.size
  replace hS := hS.addB NB3
  change Wx.Sep _ _ _ [_, _, _] at hS
  refine LW.S (CW.region ?_)
  refine LW.pp (PEv.makeFunc (.cons (.tmp rfl) (.cons (.tmp rfl) .nil))) ?_
  refine LW.deferC (.tmp rfl) ?_
  refine LW.S (CW.region ?_)
  refine LW.pp (PEv.loadA Tryz.isAgg68 Tryz.sizeOf68 ((placeC_size hC t c r)) (.tmp rfl) ((hS.blk 0 rfl).agg)) ?_
  refine LW.c (enter_call0 (.cons (.tmp rfl) .nil) (Tryz.en35)) rfl rfl rfl rfl (runs_any bc b t c r _ (hC.up hS.upd) (by omega)) ?_
  rintro v10 w4 ⟨hO10, uw4⟩
  have zw4 := uw4.size
  replace hS := hS.add uw4 (A' := aOwn 50 19 Fact.cells v10 (rnsF b t c r)) (hO10.mono (Nat.zero_le _)) (fun i h => (hO10.base i h))
  change Wx.Sep _ _ _ [_, _, _, _] at hS
  clear hO10
  obtain ⟨rs, ers⟩ : ∃ R, R = rnsF b t c r := ⟨_, rfl⟩
  have hrl := rnsF_len b t c r
  rw [← ers] at hS hrl
  obtain ⟨ad10, cp10, rfl, _⟩ := (hS.own 3 rfl).sl (fun _ => rfl)
  refine LW.A rfl (LW.S (CW.seq ?_))
  replace hS := hS.add (Up.refl _) (A' := aOwn 37 6 DP.cells (.slice none 0 0) ([] : List DP)) (OwnS.nil _ _ _ _ _) (by intro i h; cases h)
  replace hS := hS.add (Up.refl _) (A' := aAnd (usesA 3 [])) ⟨by simp [usesA], by simp [usesA]⟩ (by rintro i ⟨A, hA, _⟩; simp [usesA] at hA)
  change Wx.Sep no _ _ [_, _, _, _, _, _] at hS
  refine CW.region (LW.M rfl ?_)
  refine LW.pp (PEv.lenS Tryz.underlying22 (.tmp rfl)) ?_
  refine LW.pp (PEv.move (.const _)) ?_
  refine LW.T (CW.block ?_)
  refine CW.loopB (σ := Nat × Go.Value × List DP) (fun s w => (s.1 ≤ rs.length) ∧ (s.2.2.map DP.dec = (List.range s.1).map (decAt b t c r rs)) ∧ (Wx.Sep no w0 w [aBlk B1 (placeC bc t c r) 68, aBlk B2 #[s.2.1] 43, aBlk B3 #[vi 0] 38, aOwn 50 19 Fact.cells (.slice ad10 rs.length cp10) rs, aOwn 37 6 DP.cells s.2.1 s.2.2, aAnd (usesA 3 s.2.2)])) (fun s => [(13, .eq (vi (s.1 : Int)))]) ([(1, .eq _), (2, .eq _), (3, .eq _), (4, .eq _), (11, .eq _), (12, .eq _)]) (fun s => rs.length - s.1) (0, .slice none 0 0, []) ?_ ⟨rfl, rfl, rfl, rfl, rfl, rfl, rfl, trivial⟩ ?_
  ·exact ⟨Nat.zero_le _, rfl, hS⟩
  ·rintro ⟨k, v, L⟩ w5 ⟨hk, hL, hS⟩
   dsimp only at hk hL hS
   have hLl : L.length = k := by have h := congrArg List.length hL; simpa using h
   change CW _ _ _ _ _ _ _ ([(13, .eq (vi (k : Int)))] ++ _) _
   refine CW.S ?_
   refine LW.pp (PEv.lss (.tmp rfl) (.tmp rfl)) ?_
   refine LW.S ?_
   refine CW.cond (.tmp rfl) (fun h14 => ?_) (fun h14 => ?_)
   ·first | replace h14 := dT h14 | replace h14 := dF h14 | skip
    refine CW.skip (KW.then (CW.seq (CW.block (CW.seq ?_))))
    have hR : Els w5 ad10 19 Fact.cells rs := (hS.own 3 rfl).els (fun _ => rfl)
    refine CW.region (LW.M rfl ?_)
    obtain ⟨x, hx⟩ := getElem?_of_lt (xs := rs) (i := k) (by omega)
    obtain ⟨Bx, ox, ax, hcx⟩ := hR _ x hx
    refine LW.pp (PEv.indexAddr' Tryz.underlying22 Tryz.sizeOf50 (.tmp rfl) (.tmp rfl) (by omega) ax) ?_
    refine LW.pp (PEv.loadA Tryz.isAgg50 Tryz.sizeOf50 rfl (.tmp rfl) (hcx)) ?_
    refine LW.r (REv.allocA Tryz.zeroValue50) rfl rfl rfl rfl ?_
    rintro _ w6 ⟨B6, rfl, MB6⟩
    refine LW.A rfl ?_
    refine LW.s (SEv.storeA Tryz.sizeOf50 rfl (.tmp rfl) (.tmp rfl) (Fact.one _) MB6.blk rfl) rfl rfl rfl ?_
    intro w7 LB6
    have NB6 := MB6.set LB6
    clear LB6 MB6
    have eB6 := NB6.at_
    have zB6 := NB6.size
    replace hcx := hcx.up NB6.up
    replace hS := hS.addB NB6
    change Wx.Sep _ _ _ [_, _, _, _, _, _, _] at hS
    refine LW.S ?_
    refine CW.free 8 [.eq (.agg (placeC bc t c r)), .eq (.pointer (some ⟨B6, 5, none⟩)), .eq (vi x.Time), .eq (.slice ad10 rs.length cp10), .eq (vi (k : Int)), .eq (.slice ad10 (rs.take k).length cp10), .pred fun v W => ∃ ad cp, v = .agg (DP.cells ⟨decF b t c r x.Time (rs.take k), ad, cp⟩) ∧ OwnS W w7.drew.heap.size 3 1 eInt (.slice ad (decF b t c r x.Time (rs.take k)).uses.length cp) (decF b t c r x.Time (rs.take k)).uses, .pred fun v W => ∃ B, v = .pointer (some ⟨B, 0, none⟩) ∧ w7.drew.heap.size ≤ B ∧ Blk W B (DP.cells ⟨dec0, none, 0⟩) 37] [7, 24] (by kernel_rfl) rfl (by kernel_rfl) (by kernel_rfl) (by kernel_rfl) (by kernel_rfl) (by kernel_rfl) (by kernel_rfl) (by kernel_rfl) ⟨PhU.eq _, PhU.eq _, PhU.eq _, PhU.eq _, PhU.eq _, PhU.eq _, PhU.pred fun _ _ _ h u => let ⟨ad, cp, e, hb⟩ := h; ⟨ad, cp, e, hb.up u⟩, PhU.pred fun _ _ _ h u => let ⟨B, e, hz, hb⟩ := h; ⟨B, e, hz, hb.up u⟩, trivial⟩ ?_ ?_
    ·intro W hU0
     have hU := (Up.drew w7).trans hU0
     have hSW := hS.up hU
     have zU0 := hU0.size
     have hcp := (hSW.own 3 rfl).lcp
     have hEW : Els W ad10 19 Fact.cells rs := (hSW.own 3 rfl).els (fun _ => rfl)
     refine allL.cons ⟨rfl, TU.p (PEv.loadA Tryz.isAgg68 Tryz.sizeOf68 (placeC_size hC t c r) (.tmp rfl) ((hSW.blk 0 rfl).agg)) rfl⟩ ?_
     refine allL.cons ⟨rfl, TU.p (PEv.fieldAddr (off := 5) Tryz.underlying50 rfl rfl Tryz.sizeOf3 rfl (.tmp rfl)) rfl⟩ ?_
     refine allL.cons ⟨rfl, TU.p (PEv.load Tryz.isAgg3 (.tmp rfl) ((hSW.blk 6 rfl).celln rfl)) rfl⟩ ?_
     refine allL.cons ⟨rfl, TU.p (PEv.move (.tmp rfl)) rfl⟩ ?_
     refine allL.cons ⟨rfl, TU.p (PEv.move (.tmp rfl)) rfl⟩ ?_
     refine allL.cons ⟨rfl, TU.p (PEv.vl (PEv.sliceHi Tryz.underlying22 Tryz.sizeOf50 (.tmp rfl) (.tmp rfl) (by omega)) (by rw [List.length_take, Nat.min_eq_left (by omega)])) rfl⟩ ?_
     refine allL.cons ⟨rfl, TU.c (enter_call0 (.cons (.tmp rfl) (.cons (.tmp rfl) (.cons (.tmp rfl) .nil))) (Tryz.en33)) (decide_any bc b t c r x.Time ad10 cp10 (rs.take k) W (hC.up (hS.upd.trans hU)) (Els.take hEW) (by rw [List.length_take]; omega) hlR hlM hlT) (by rintro v W1 ⟨u_, rfl, ho, hu⟩; obtain ⟨adu, cpu, rfl, _⟩ := ho.sl (fun _ => rfl); exact ⟨hu, adu, cpu, rfl, ho.mono zU0⟩)⟩ ?_
     refine allL.cons ⟨rfl, TU.r (REv.allocA Tryz.zeroValue37) (fun v W' h => let ⟨B, e, N⟩ := h; ⟨N.up, B, e, by rw [N.at_]; exact zU0, N.blk⟩)⟩ ?_
     exact allL.nil
    ·intro w8 g hU0 hg
     have hU := (Up.drew w7).trans hU0
     have zw8 := hU.size
     obtain ⟨B7, e7, z7, hB7⟩ : ∃ B, g 7 = .pointer (some ⟨B, 0, none⟩) ∧ w7.drew.heap.size ≤ B ∧ Blk w8 B (DP.cells ⟨dec0, none, 0⟩) 37 := hg 7 _ 7 (by decide) rfl rfl
     obtain ⟨ad7, cp7, e24, ho7⟩ : ∃ ad cp, g 24 = .agg (DP.cells ⟨decF b t c r x.Time (rs.take k), ad, cp⟩) ∧ OwnS w8 w7.drew.heap.size 3 1 eInt (.slice ad (decF b t c r x.Time (rs.take k)).uses.length cp) (decF b t c r x.Time (rs.take k)).uses := hg 6 _ 24 (by decide) rfl rfl
     change LW _ _ _ _ _ _ _ _ ((7, .eq (g 7)) :: (24, .eq (g 24)) :: _) _
     rw [e7, e24]
     clear e7 e24 hg
     replace hS := (hS.up (Up.drew _)).add2 hU0 (A := aBlk B7 (DP.cells ⟨dec0, none, 0⟩) 37) (B := aOwn 3 1 eInt (.slice ad7 (decF b t c r x.Time (rs.take k)).uses.length cp7) (decF b t c r x.Time (rs.take k)).uses) hB7 (ho7.mono (Nat.zero_le _)) (fun i (e : i = B7) => by omega) (fun i h => ho7.base i h) (fun i (e : i = B7) h2 => own_blk ho7 hB7 (by decide) (e ▸ h2))
     clear ho7 hB7
     change Wx.Sep no _ _ [_, _, _, _, _, _, _, _, _] at hS
     refine LW.s (SEv.storeA Tryz.sizeOf37 rfl (.tmp rfl) (.tmp rfl) (DP.one _) (hS.blk 7 rfl) rfl) rfl rfl rfl ?_
     intro w9 Nw9
     have zw9 := Nw9.size
     replace hS := hS.putB 7 rfl (show Set_ _ w9 _ (DP.cells ⟨decF b t c r x.Time (rs.take k), ad7, cp7⟩) _ from Nw9)
     change Wx.Sep _ _ _ [_, _, _, _, _, _, _, _, _] at hS
     refine LW.S (CW.region ?_)
     refine LW.pp (PEv.fieldAddr (off := 1) Tryz.underlying50 rfl rfl Tryz.sizeOf3 rfl (.tmp rfl)) ?_
     refine LW.pp (PEv.load Tryz.isAgg3 (.tmp rfl) ((hS.blk 6 rfl).celln rfl)) ?_
     refine LW.pp (PEv.fieldAddr (off := 0) Tryz.underlying37 rfl rfl Tryz.sizeOf3 rfl (.tmp rfl)) ?_
     refine LW.s (SEv.store Tryz.sizeOf3 (.tmp rfl) (.tmp rfl) rfl (hS.blk 7 rfl) (Nat.le_of_ble_eq_true rfl)) rfl rfl rfl ?_
     intro w10 Nw10
     have zw10 := Nw10.size
     replace hS := hS.putB 7 rfl (show Set_ _ w10 _ (DP.cells ⟨{ decF b t c r x.Time (rs.take k) with run := x.ID }, ad7, cp7⟩) _ from Nw10)
     change Wx.Sep _ _ _ [_, _, _, _, _, _, _, _, _] at hS
     refine LW.T (CW.region ?_)
     refine LW.pp (PEv.load Tryz.isAgg43 (.tmp rfl) ((hS.blk 1 rfl).celln rfl)) ?_
     refine LW.pp (PEv.loadA Tryz.isAgg37 Tryz.sizeOf37 rfl (.tmp rfl) ((hS.blk 7 rfl).agg)) ?_
     refine LW.r (REv.buildSlice (xs := [(⟨{ decF b t c r x.Time (rs.take k) with run := x.ID }, ad7, cp7⟩ : DP)]) (enc := DP.cells) (mk := fun p => .agg p.cells) Tryz.underlying43 Tryz.sizeOf37 Tryz.zeroValue37 rfl (by decide) (fun _ => rfl) (fun _ => rfl) (.cons (.tmp rfl) .nil) rfl) rfl rfl rfl rfl ?_
     rintro _ w11 ⟨B30, cB30, rfl, NB30, yB30, xB30⟩
     have eB30 := NB30.at_
     have zB30 := NB30.size
     replace hS := hS.up NB30.up
     have hE30 := xB30
     refine LW.r (REv.appendF (enc := DP.cells) (bytes := 64) (i := Tryz.t37) Tryz.underlying43 (by kernel_rfl) rfl rfl rfl rfl (by decide) (fun _ => rfl) DP.one (.tmp rfl) (.tmp rfl) (hS.own 4 rfl) (Sl.of_els hE30) (by simp [maxLen]; omega) (by simp; omega)) rfl rfl rfl rfl ?_
     intro v31 w12 Gw12
     have zw12 := Gw12.fr.size
     replace hS := hS.stp 4 rfl Gw12
     change Wx.Sep _ _ _ [_, _, _, _, _, _, _, _, _] at hS
     refine LW.s (SEv.store Tryz.sizeOf43 (.tmp rfl) (.tmp rfl) ((hS.own 4 rfl).oneV (fun _ => rfl)) (hS.blk 1 rfl) (Nat.le_of_ble_eq_true rfl)) rfl rfl rfl ?_
     intro w13 Nw13
     have zw13 := Nw13.size
     replace hS := hS.putB 1 rfl (show Set_ _ w13 _ (#[v31]) _ from Nw13)
     change Wx.Sep _ _ _ [_, _, _, _, _, _, _, _, _] at hS
     refine LW.nil (KW.inBlock (KW.then ?_))
     have h9 := Sep.snocA (Bs := [_, _, _, _, _]) (hS.sub (.cons_cons _ (.cons_cons _ (.cons_cons _ (.cons_cons _ (.cons_cons _ (.cons_cons _ (.cons _ (.cons _ (.cons_cons _ .slnil))))))))))
     replace h9 : Wx.Sep no w0 w13 ([_, _, _, _, _] ++ [aAnd (usesA 3 L ++ [aOwn 3 1 eInt (DP.uv ⟨{ decF b t c r x.Time (rs.take k) with run := x.ID }, ad7, cp7⟩) (DP.dec ⟨{ decF b t c r x.Time (rs.take k) with run := x.ID }, ad7, cp7⟩).uses])]) := h9
     rw [usesA_snoc] at h9
     refine CW.region ?_
     refine LW.pp (PEv.inc (.tmp rfl) (by omega)) ?_
     refine LW.M rfl (LW.nil (KW.round ?_))
     exact ⟨(k + 1, v31, L ++ [(⟨{ decF b t c r x.Time (rs.take k) with run := x.ID }, ad7, cp7⟩ : DP)]), ⟨by show k + 1 ≤ _; omega, by rw [List.map_append, map_range_succ, hL, decAt_some hx]; rfl, h9⟩, ⟨rfl, rfl, rfl, rfl, rfl, rfl, rfl, trivial⟩, by show rs.length - (k + 1) < rs.length - k; omega⟩
   ·first | replace h14 := dT h14 | replace h14 := dF h14 | skip
    refine CW.exit (KW.then_exit (KW.then_exit (KW.block_hit (KW.then (CW.S ?_)))))
    refine LW.pp (PEv.load Tryz.isAgg43 (.tmp rfl) ((hS.blk 1 rfl).celln rfl)) ?_
    refine LW.s (SEv.store Tryz.sizeOf43 (.tmp rfl) (.tmp rfl) ((hS.own 4 rfl).oneV (fun _ => rfl)) (hS.blk 1 rfl) (Nat.le_of_ble_eq_true rfl)) rfl rfl rfl ?_
    intro w14 Nw14
    have zw14 := Nw14.size
    replace hS := hS.putB 1 rfl (show Set_ _ w14 _ (#[v]) _ from Nw14)
    change Wx.Sep _ _ _ [_, _, _, _, _, _] at hS
    refine LW.s (SEv.store Tryz.sizeOf38 (.tmp rfl) (.const _) rfl (hS.blk 2 rfl) (Nat.le_of_ble_eq_true rfl)) rfl rfl rfl ?_
    intro w15 Nw15
    have zw15 := Nw15.size
    replace hS := hS.putB 2 rfl (show Set_ _ w15 _ (#[vi 0]) _ from Nw15)
    change Wx.Sep _ _ _ [_, _, _, _, _, _] at hS
    refine LW.T (CW.ret ?_)
    refine KW.door (f := 82) (args := #[.pointer (some ⟨B3, 0, none⟩), .pointer (some ⟨B2, 0, none⟩)]) (by first | exact (Tryz.en82 _ _) | simp [invoke]) rfl (desD_any B3 B2 _ (hS.blk 2 rfl)) (fun w9 u9 => ?_)
    replace hS := hS.stp 2 rfl u9
    refine KW.retBB rfl rfl rfl Tryz.isAgg43 ((hS.blk 1 rfl).celln rfl) Tryz.isAgg38 ((hS.blk 2 rfl).celln rfl) ⟨_, rfl, ?_⟩
    have hkl : k = rs.length := by omega
    exact ⟨v, L, rfl, by rw [hL, hkl, ers]; rfl, hS.sub (.cons _ (.cons _ (.cons _ (.cons _ (.cons_cons _ (.cons_cons _ .slnil))))))⟩
theorem Decisions_any (bc : Array Go.Value) (b : Base) (t c r : Int) (w : World) (hC : BaseC w bc b) (hlP : b.Processes.length ≤ 400) (hlR : b.Resets.length ≤ 100000) (hlM : b.Measures.length ≤ 100000) (hlT : b.Targets.length ≤ 100000) : Ret Tryz.prog 18 #[.agg bc, vi t, vi c, vi r] w fun r0 w' => ∃ v L, r0 = v ∧ L.map DP.dec = desF b t c r ∧ Wx.Sep no w w' [aOwn 37 6 DP.cells v L, aAnd (usesA 3 L)] := by
  obtain ⟨w0, rfl⟩ : ∃ w0, w0 = w := ⟨_, rfl⟩
  have hS := Sep.start no w0
  obtain ⟨v0, v1, v2, v3, v4, v5, v6, v7, v8, v9, v10, rfl⟩ := hC.lit
  refine Calls_start (n := 21) (m := 9) Tryz.func18 rfl rfl rfl ?_
  refine CW.S ?_
  refine LW.r (REv.boxA (.tmp rfl)) rfl rfl rfl rfl ?_
  rintro _ w1 ⟨B4, rfl, NB4⟩
  have eB4 := NB4.at_
  have zB4 := NB4.size
  replace hS := hS.addB NB4
  change Wx.Sep _ _ _ [_] at hS
  refine LW.C (LW.S (CW.region ?_))
  refine LW.pp (PEv.loadA Tryz.isAgg24 Tryz.sizeOf24 rfl (.tmp rfl) ((hS.blk 0 rfl).agg)) ?_
  refine LW.M rfl (LW.M rfl (LW.M rfl ?_))
  refine LW.pp (PEv.build (cs := placeC #[v0, v1, v2, v3, v4, v5, v6, v7, v8, v9, v10] t c r) Tryz.underlying68 Tryz.zeroValue68 Tryz.places68 (.cons (.tmp rfl) (.cons (.tmp rfl) (.cons (.tmp rfl) (.cons (.tmp rfl) .nil)))) (by kernel_rfl)) ?_
  refine LW.c (enter_call0 (.cons (.tmp rfl) .nil) (Tryz.en39)) rfl rfl rfl rfl (decisions_any #[v0, v1, v2, v3, v4, v5, v6, v7, v8, v9, v10] b t c r _ (hC.up hS.upd) hlP hlR hlM hlT) ?_
  rintro _ w2 ⟨v17, L, rfl, hLm, hT⟩
  replace hS := hS.join hT
  change Wx.Sep no _ _ [_, _, _] at hS
  refine LW.M rfl (LW.pp (PEv.extract (.tmp rfl) rfl) (LW.pp (PEv.extract (.tmp rfl) rfl) (LW.A rfl (LW.A rfl (LW.S (CW.region (LW.M rfl (LW.A rfl (LW.T (CW.ret ?_))))))))))
  refine KW.ret1 rfl rfl ⟨_, rfl, ?_⟩
  exact ⟨v17, L, rfl, hLm, hS.sub (.cons _ (.cons_cons _ (.cons_cons _ .slnil)))⟩
theorem Decide_own (bc : Array Go.Value) (b : Base) (t c r time : Int) (w : World) (hC : BaseC w bc b) (hlP : b.Processes.length ≤ 400) (hlR : b.Resets.length ≤ 100000) (hlM : b.Measures.length ≤ 100000) (hlT : b.Targets.length ≤ 100000) : Ret Tryz.prog 14 #[.agg bc, vi t, vi c, vi r, vi time] w fun r0 w' => ∃ ad cp, r0 = .tuple #[.agg (DP.cells ⟨decNow b t c r time, ad, cp⟩), vi 0] ∧ OwnS w' w.heap.size 3 1 eInt (.slice ad (decNow b t c r time).uses.length cp) (decNow b t c r time).uses ∧ Up w w' := by
  obtain ⟨w0, rfl⟩ : ∃ w0, w0 = w := ⟨_, rfl⟩
  have hS := Sep.start no w0
  obtain ⟨v0, v1, v2, v3, v4, v5, v6, v7, v8, v9, v10, rfl⟩ := hC.lit
  refine Calls_startD (n := 28) (m := 9) Tryz.func14 rfl rfl rfl ?_
  refine CW.S ?_
  refine LW.r (REv.boxA (.tmp rfl)) rfl rfl rfl rfl ?_
  rintro _ w1 ⟨B5, rfl, NB5⟩
  have eB5 := NB5.at_
  have zB5 := NB5.size
  replace hS := hS.addB NB5
  change Wx.Sep _ _ _ [_] at hS
  refine LW.r (REv.allocA Tryz.zeroValue37) rfl rfl rfl rfl ?_
  rintro _ w2 ⟨B10, rfl, NB10⟩
  have eB10 := NB10.at_
  have zB10 := NB10.size
  replace hS := hS.addB NB10
  change Wx.Sep _ _ _ [_, _] at hS
  refine LW.r (REv.alloc1 Tryz.zeroValue38 rfl) rfl rfl rfl rfl ?_
  rintro _ w3 ⟨B11, rfl, NB11⟩
  have eB11 := NB11.at_
  have zB11 := NB11.size
  replace hS := hS.addB NB11
  change Wx.Sep _ _ _ [_, _, _] at hS
  refine LW.S (CW.region ?_)
  refine LW.pp (PEv.makeFunc (.cons (.tmp rfl) (.cons (.tmp rfl) .nil))) ?_
  refine LW.deferC (.tmp rfl) ?_
  refine LW.S (CW.region ?_)
  refine LW.pp (PEv.loadA Tryz.isAgg24 Tryz.sizeOf24 rfl (.tmp rfl) ((hS.blk 0 rfl).agg)) ?_
  refine LW.M rfl (LW.M rfl (LW.M rfl ?_))
  refine LW.pp (PEv.build (cs := placeC #[v0, v1, v2, v3, v4, v5, v6, v7, v8, v9, v10] t c r) Tryz.underlying68 Tryz.zeroValue68 Tryz.places68 (.cons (.tmp rfl) (.cons (.tmp rfl) (.cons (.tmp rfl) (.cons (.tmp rfl) .nil)))) (by kernel_rfl)) ?_
  refine LW.r (REv.allocA Tryz.zeroValue68) rfl rfl rfl rfl ?_
  rintro _ w4 ⟨B12, rfl, MB12⟩
  refine LW.s (SEv.storeA Tryz.sizeOf68 rfl (.tmp rfl) (.tmp rfl) (placeC_one hC t c r) MB12.blk rfl) rfl rfl rfl ?_
  intro w5 LB12
  have NB12 := MB12.set LB12
  clear LB12 MB12
  have eB12 := NB12.at_
  have zB12 := NB12.size
  replace hS := hS.addB NB12
  change Wx.Sep _ _ _ [_, _, _, _] at hS
  refine LW.S ?_
  refine CW.free 9 [.eq (.agg (placeC #[v0, v1, v2, v3, v4, v5, v6, v7, v8, v9, v10] t c r)), .eq (vi time), .eq (.agg (placeC #[v0, v1, v2, v3, v4, v5, v6, v7, v8, v9, v10] t c r)), .pred fun v W => Sl W v 19 Fact.cells (rnsF b t c r), .eq (vi time), .pred fun v W => CondOk Tryz.prog W v (fun x => decide (x.Time ≤ time)), .pred fun v W => CArg Tryz.prog W v (fun x => decide (x.Time ≤ time)), .pred fun v W => Sl W v 19 Fact.cells ((rnsF b t c r).filter fun x => decide (x.Time ≤ time)), .pred fun v W => ∃ ad cp, v = .agg (DP.cells ⟨decNow b t c r time, ad, cp⟩) ∧ OwnS W w5.drew.heap.size 3 1 eInt (.slice ad (decNow b t c r time).uses.length cp) (decNow b t c r time).uses] [27] (by kernel_rfl) rfl (by kernel_rfl) (by kernel_rfl) (by kernel_rfl) (by kernel_rfl) (by kernel_rfl) (by kernel_rfl) (by kernel_rfl) ⟨PhU.eq _, PhU.eq _, PhU.eq _, PhU.pred fun _ _ _ h u => Sl.up h u, PhU.eq _, PhU.pred fun _ _ _ h u => h.up u, PhU.pred fun _ _ _ h u => h.up u, PhU.pred fun _ _ _ h u => Sl.up h u, PhU.pred fun _ _ _ h u => let ⟨ad, cp, e, hb⟩ := h; ⟨ad, cp, e, hb.up u⟩, trivial⟩ ?_ ?_
  ·intro W hU0
   have hU := (Up.drew w5).trans hU0
   have hSW := hS.up hU
   have zU0 := hU0.size
   have hrl := rnsF_len b t c r
   refine allL.cons ⟨rfl, TU.p (PEv.loadA Tryz.isAgg68 Tryz.sizeOf68 rfl (.tmp rfl) ((hSW.blk 3 rfl).agg)) rfl⟩ ?_
   refine allL.cons ⟨rfl, TU.p (PEv.move (.tmp rfl)) rfl⟩ ?_
   refine allL.cons ⟨rfl, TU.p (PEv.loadA Tryz.isAgg68 Tryz.sizeOf68 rfl (.tmp rfl) ((hSW.blk 3 rfl).agg)) rfl⟩ ?_
   refine allL.cons ⟨rfl, TU.c (enter_call0 (.cons (.tmp rfl) .nil) (Tryz.en35)) (runs_any #[v0, v1, v2, v3, v4, v5, v6, v7, v8, v9, v10] b t c r W (hC.up (hS.upd.trans hU)) (by omega)) (by rintro v W1 ⟨h, u⟩; exact ⟨u, h.sl (fun _ => rfl)⟩)⟩ ?_
   refine allL.cons ⟨rfl, TU.p (PEv.move (.tmp rfl)) rfl⟩ ?_
   refine allL.cons ⟨rfl, TU.c (enter_call0 (.cons (.tmp rfl) .nil) (Tryz.en36)) (until_any time W) (by rintro _ W1 ⟨h, u⟩; exact ⟨u, h⟩)⟩ ?_
   refine allL.cons ⟨rfl, TU.open (d := 24) rfl (by rintro _ ⟨cf, lb, rfl, he, hp⟩; exact TU.r (REv.buildSlice (xs := [(⟨cf, lb, fun x => decide (x.Time ≤ time)⟩ : Cnd)]) (enc := Cnd.cells) (mk := Cnd.v) Tryz.underlying113 Tryz.sizeOf72 Tryz.zeroValue72 rfl (by decide) (fun _ => rfl) (fun _ => rfl) (.cons (.tmp rfl) .nil) rfl) (by rintro _ W1 ⟨B, c_, rfl, N, y, x_⟩; exact ⟨N.up, _, _, _, rfl, x_, CndsOk.cons (⟨cf, lb, rfl, he, fun W2 u x => hp W2 (N.up.trans u) x⟩ : CondOk Tryz.prog W1 (Cnd.v ⟨cf, lb, fun x => decide (x.Time ≤ time)⟩) (fun x => decide (x.Time ≤ time))) CndsOk.nil, by simp, fun x => by simp [allQ]⟩))⟩ ?_
   refine allL.cons ⟨rfl, TU.open (d := 22) rfl (by rintro _ ⟨adr, cpr, rfl, hEr⟩; exact TU.open (d := 25) rfl (by rintro _ ⟨ad, cp_, qs, rfl, hE, hq, hlq, hpq⟩; exact TU.c (enter_call0 (.cons (.tmp rfl) (.cons (.tmp rfl) .nil)) (Tryz.en34)) (all_any adr cpr (rnsF b t c r) ad cp_ qs W hEr (by omega) hE hlq hq) (by rintro v W1 ⟨h, u⟩; rw [filter_eq hpq] at h; exact ⟨u, h.sl (fun _ => rfl)⟩)))⟩ ?_
   refine allL.cons ⟨rfl, TU.open (d := 26) rfl (by rintro _ ⟨ada, cpa, rfl, hEa⟩; exact TU.c (enter_call0 (.cons (.tmp rfl) (.cons (.tmp rfl) (.cons (.tmp rfl) .nil))) (Tryz.en33)) (decide_any #[v0, v1, v2, v3, v4, v5, v6, v7, v8, v9, v10] b t c r time ada cpa ((rnsF b t c r).filter fun x => decide (x.Time ≤ time)) W (hC.up (hS.upd.trans hU)) hEa (Nat.le_trans (List.length_filter_le _ _) (by omega)) hlR hlM hlT) (by rintro v W1 ⟨u_, rfl, ho, hu⟩; obtain ⟨adu, cpu, rfl, _⟩ := ho.sl (fun _ => rfl); exact ⟨hu, adu, cpu, rfl, ho.mono zU0⟩))⟩ ?_
   exact allL.nil
  ·intro w6 g hU0 hg
   have hU := (Up.drew w5).trans hU0
   have zw6 := hU.size
   obtain ⟨ad7, cp7, e27, ho7⟩ : ∃ ad cp, g 27 = .agg (DP.cells ⟨decNow b t c r time, ad, cp⟩) ∧ OwnS w6 w5.drew.heap.size 3 1 eInt (.slice ad (decNow b t c r time).uses.length cp) (decNow b t c r time).uses := hg 8 _ 27 (by decide) rfl rfl
   change LW _ _ _ _ _ _ _ _ ((27, .eq (g 27)) :: _) _
   rw [e27]
   clear e27 hg
   replace hS := (hS.up (Up.drew _)).add hU0 (A' := aOwn 3 1 eInt (.slice ad7 (decNow b t c r time).uses.length cp7) (decNow b t c r time).uses) (ho7.mono (Nat.zero_le _)) (fun i h => ho7.base i h)
   clear ho7
   change Wx.Sep no _ _ [_, _, _, _, _] at hS
   refine LW.s (SEv.storeA Tryz.sizeOf37 rfl (.tmp rfl) (.tmp rfl) (DP.one _) (hS.blk 1 rfl) rfl) rfl rfl rfl ?_
   intro w7 Nw7
   have zw7 := Nw7.size
   replace hS := hS.putB 1 rfl (show Set_ _ w7 _ (DP.cells ⟨decNow b t c r time, ad7, cp7⟩) _ from Nw7)
   change Wx.Sep _ _ _ [_, _, _, _, _] at hS
   refine LW.s (SEv.store Tryz.sizeOf38 (.tmp rfl) (.const _) rfl (hS.blk 2 rfl) (Nat.le_of_ble_eq_true rfl)) rfl rfl rfl ?_
   intro w8 Nw8
   have zw8 := Nw8.size
   replace hS := hS.putB 2 rfl (show Set_ _ w8 _ (#[vi 0]) _ from Nw8)
   change Wx.Sep _ _ _ [_, _, _, _, _] at hS
   refine LW.T (CW.ret ?_)
   refine KW.door (f := 31) (args := #[.pointer (some ⟨B11, 0, none⟩), .pointer (some ⟨B10, 0, none⟩)]) (by first | exact (Tryz.en31 _ _) | simp [invoke]) rfl (decD_any B11 B10 _ (hS.blk 2 rfl)) (fun w9 u9 => ?_)
   replace hS := hS.stp 2 rfl u9
   refine KW.retAB rfl rfl rfl Tryz.isAgg37 Tryz.sizeOf37 rfl (hS.blk 1 rfl).agg Tryz.isAgg38 ((hS.blk 2 rfl).celln rfl) ⟨_, rfl, ?_⟩
   exact ⟨ad7, cp7, rfl, (hS.own 4 rfl).rebase (fun i hi => (hS.foot 4 rfl i hi).resolve_left (fun h => h)), hS.upd⟩
theorem Decide_any (bc : Array Go.Value) (b : Base) (t c r time : Int) (w : World) (hC : BaseC w bc b) (hlP : b.Processes.length ≤ 400) (hlR : b.Resets.length ≤ 100000) (hlM : b.Measures.length ≤ 100000) (hlT : b.Targets.length ≤ 100000) : Ret Tryz.prog 14 #[.agg bc, vi t, vi c, vi r, vi time] w fun r0 w' => ∃ v, r0 = .tuple #[v, vi 0] ∧ DecE w' v (decNow b t c r time) ∧ Up w w' :=
  (Decide_own bc b t c r time w hC hlP hlR hlM hlT).mono fun _ _ ⟨ad, cp, e, ho, u⟩ => ⟨_, e, ⟨ad, cp, rfl, ho.sl (fun _ => rfl)⟩, u⟩
end Go.Proofs.YtgffaeachbbjoaaGreatDoor
end
section
namespace Go.Wx
open Go.RowKit
section
variable {R : Option Nat} {m : Nat} {P : Program} {n : Nat} {ds : List Deferred} {Q : Exit → Go.Act → World → Prop} {l : Env} {w : World}
def TW (P : Program) (n : Nat) (ds : List Deferred) (ops : Array Oper) (env : Env) (W : World) (o : Oper) (v : Value) : Prop := ∀ a, Ag n ds env a W → if Region.wanted o (yielded ops a.tmps) = true then OpY P o a W (fun u W' => Up W W' ∧ u = v) else v = undef
section
variable {ops : Array Oper} {env : Env} {W : World} {o : Oper} {v : Value}
theorem TW.p (h : PEv P n ds env W o v) (hg : o.guard = none) : TW P n ds ops env W o v := fun a ha => by
  rw [if_pos (by simp [Region.wanted, hg])]
  exact .inl ⟨v, W, h a W ha (Up.refl W), Up.refl W, rfl⟩
theorem TW.yp {j dj : Nat} {oj : Oper} {want : Bool} (h : PEv P n ds env W o v) (hg : o.guard = some (j, want)) (hj : ops[j]? = some oj) (hdj : oj.dst = some dj) (hdn : Nat.ble (dj + 1) n = true) (hb : lk env dj = some (.eq (.bool want))) : TW P n ds ops env W o v := fun a ha => by
  have hw := wanted_of (o := o) (ops := ops) (a := a) hg hj hdj (by rw [ha.size]; exact Nat.le_of_ble_eq_true hdn) (ha.val _ _ hb)
  have e : (want == want) = true := by cases want <;> rfl
  rw [hw, e, if_pos rfl]
  exact .inl ⟨v, W, h a W ha (Up.refl W), Up.refl W, rfl⟩
theorem TW.no {j dj : Nat} {oj : Oper} {want b : Bool} (hg : o.guard = some (j, want)) (hj : ops[j]? = some oj) (hdj : oj.dst = some dj) (hdn : Nat.ble (dj + 1) n = true) (hb : lk env dj = some (.eq (.bool b))) (hne : (b == want) = false) : TW P n ds ops env W o undef := fun a ha => by
  have hw := wanted_of (o := o) (ops := ops) (a := a) hg hj hdj (by rw [ha.size]; exact Nat.le_of_ble_eq_true hdn) (ha.val _ _ hb)
  rw [hw, hne, if_neg Bool.false_ne_true]
end
theorem CW.freeS {id : Nat} {opsL : List Oper} (k h : Nat) (vs : List Value) (keep : List Nat) (S : Nat → Prop) (PreH PostH : World → Prop) (hm : P.follows .mixedOrders = true) (hl : noPred l = true)
    (hA : aheadOK opsL.toArray = true) (hC : (Nat.beq k opsL.toArray.size || closOK opsL.toArray k) = true) (hF : farOK opsL.toArray k = true) (hks : Nat.ble k opsL.toArray.size = true) (hD : dstOK' n opsL.toArray 0 k = true) (hTl : tailOK opsL.toArray k = true)
    (hfree : freeOK l (opsL.take k) = true) (hhk : Nat.ble (h + 1) k = true) (hPr : PreH w.drew) (hRU : ∀ W W', PreH W → Up W W' → PreH W') (hPU : ∀ W W', PostH W → Up W W' → PostH W')
    (hop : ∀ W, Fr S w.drew W → allL (fun i o => (i ≠ h → TW P n ds opsL.toArray (knp opsL.toArray (fun i => .eq (vs.getD i undef)) 0 o ++ l) W o (vs.getD i undef)) ∧
      (i = h → (PreH W → SEv P n ds (knp opsL.toArray (fun i => .eq (vs.getD i undef)) 0 o ++ l) W o (fun W' => Fr S W W' ∧ PostH W')) ∧ o.guard = none ∧ o.dst = none)) 0 (opsL.take k))
    (hend : ∀ W, Fr S w.drew W → PostH W → LW R m P n ds opsL.toArray Q (opsL.drop k) (keep.map (fun i => (((opsL[i]?).bind (·.dst)).getD 0, .eq (vs.getD i undef))) ++ l) W)
    (hkp : (keep.all fun i => Nat.ble (i + 1) k && ((opsL[i]?).bind (·.dst)).isSome) = true) :
    CW R m P n ds (.region id opsL.toArray true) Q l w := by
  have hks' : k ≤ opsL.length := by have := Nat.le_of_ble_eq_true hks; simp at this; omega
  have sub : ∀ j o, j < k → opsL.toArray[j]? = some o → (opsL.take k)[j]? = some o := fun j o hjk ho => by
    rw [List.getElem?_take_of_lt hjk]; simpa using ho
  have hbd : ∀ i ph, lk l i = some ph → ∀ (j : Nat) (o : Oper), 0 ≤ j → j < k → opsL.toArray[j]? = some o → o.dst ≠ some i := fun i ph hi j o _ hjk ho => freeOK_at hfree hi (List.mem_of_getElem? (sub j o hjk ho))
  refine CW.draws_up hm hl fun fuel listed a hf hu ha => ?_
  refine AWF.gen (k := k) (fun i => .eq (vs.getD i undef)) (Fr S) (fun L _ W => ((L h = true → PostH W) ∧ (L h = false → PreH W)) ∧ Fr S w.drew W) (f0 := fun t => a.tmps.getD t undef) (Fr.refl S) (fun _ _ _ => Fr.trans) (fun i v w w' h u => h) hA hC hF hks (by simp) hD hl hbd ?_ ⟨⟨fun hh => by simp at hh, fun _ => hPr⟩, Fr.refl _ _⟩ ?_ fuel listed a hf hu ha (fun _ => rfl)
  · intro i o _ hi hio L f W hU0 hDn hLi hed hInv a ha hsl
    have hU := hInv.2
    have h3 := (hop W hU).at (sub i o hi hio)
    rw [Nat.zero_add] at h3
    by_cases ih : i = h
    · obtain ⟨h4, hg, hd⟩ := h3.2 ih
      rw [if_pos (by simp [Region.wanted, hg])]
      obtain ⟨W', hr, hf', hp⟩ := h4 (hInv.1.2 (by rw [← ih]; exact hLi)) a ha
      exact .inr ⟨W', hr, hf', (fun d e => nomatch (hd.symm.trans e)), ⟨fun _ => hp, fun hh => by rw [ih] at hh; simp [setL] at hh⟩, hU.trans hf'⟩
    · have h4 := h3.1 ih a ha
      have done : ∀ v W', Up W W' ∧ v = vs.getD i undef → Fr S W W' ∧ (∀ d, o.dst = some d → (Ph.eq (vs.getD i undef)).holds v W') ∧ ((setL L i h = true → PostH W') ∧ (setL L i h = false → PreH W')) ∧ Fr S w.drew W' := fun v W' hv =>
        ⟨hv.1.fr S, fun _ _ => hv.2, ⟨fun hh => hPU W W' (hInv.1.1 (by simpa [setL, Ne.symm ih] using hh)) hv.1, fun hh => hRU W W' (hInv.1.2 (by simpa [setL, Ne.symm ih] using hh)) hv.1⟩, hU.trans (hv.1.fr S)⟩
      split at h4
      · rename_i hw
        rw [if_pos hw]
        rcases h4 with ⟨v, W', hr, hp⟩ | ⟨fn, args, w1, hr, hc⟩
        · exact .inl (.inl ⟨v, W', hr, done v W' hp⟩)
        · exact .inl (.inr ⟨fn, args, w1, hr, hc.mono done⟩)
      · rename_i hw
        rw [if_neg hw]
        exact done undef W ⟨Up.refl W, h4.symm⟩
  · intro f W hR hInv fuel' listed' a' hf' hu' ha' hsl'
    refine tail_order hTl hA (opsL.toArray.size - k) k fuel' listed' a' W rfl (by simp; omega) (Nat.le_refl _) hf' hu' ?_
    refine hend W hInv.2 (hInv.1.1 (decide_eq_true (Nat.le_of_ble_eq_true hhk))) a' ⟨ha'.defers, ha'.size, fun t q ht => ?_⟩
    rcases lk_append ht with h1 | h1
    · obtain ⟨i, hi, he⟩ := List.mem_map.1 (lk_mem h1)
      cases he
      have hk1 := List.all_eq_true.1 hkp i hi
      rw [Bool.and_eq_true] at hk1
      have hik : i < k := Nat.le_of_ble_eq_true hk1.1
      cases ho : opsL[i]? with
      | none => rw [ho] at hk1; cases hk1.2
      | some o =>
        rw [ho] at hk1
        cases hd : o.dst with
        | none => simp [hd] at hk1
        | some d =>
          have ho' : opsL.toArray[i]? = some o := by simpa using ho
          have hmem : (d, Ph.eq (vs.getD i undef)) ∈ allP opsL.toArray (fun i => .eq (vs.getD i undef)) 0 k := by
            unfold allP
            rw [List.mem_filterMap]
            exact ⟨i, List.mem_range.2 hik, by rw [if_pos (by simp), ho']; simp [hd]⟩
          obtain ⟨q', hq⟩ := lk_of_mem hmem
          obtain ⟨j, p, _, hjk, hp, hpd, e⟩ := allP_at hq
          have : j = i := by
            by_cases ee : j = i
            · exact ee
            · exact absurd hpd ((dstOK'_at hD (Nat.zero_le _) hik ho' hd).2 j p (Nat.zero_le _) hjk ee hp)
          subst this
          have h5 := ha'.val d q' (lk_left hq)
          rw [e] at h5
          have e6 : (((some o).bind fun x => x.dst).getD 0) = d := by simp [hd]
          rw [e6]
          exact h5
    · refine ha'.val t q ?_
      rw [lk_right]
      · exact h1
      · cases hq : lk (allP opsL.toArray (fun i => .eq (vs.getD i undef)) 0 k) t with
        | none => rfl
        | some q' =>
          obtain ⟨j, p, _, hjk, hp, hpd, _⟩ := allP_at hq
          exact absurd hpd (hbd t q h1 j p (Nat.zero_le _) hjk hp)
end
end Go.Wx
end
section
namespace Go.Wx
theorem mkFno {n d : Int} (h : fitsF n d = false) : mkF n d = (rt0, 30) := if_neg (by rw [h]; exact Bool.false_ne_true)
theorem procB_mem {b : Base} {id : Int} {f : Fact} (h : procB b id = some f) : f ∈ b.Processes := List.mem_of_find?_eq_some h
end Go.Wx
namespace Go.Proofs.YtgffaeachbbjoaaGreatDoor
open Go.Wx Go.RowKit
theorem indexD_any (cf : Nat) (lb : Array Go.Value) (p : DP → Bool) (hen : ∀ args w, (callFunc cf args).run Tryz.prog w = .ok (.enter cf args) w) (ad : Option Addr) (cp : Nat) (l : List DP) (w : World) (hE0 : Els w ad 6 DP.cells l) (hl : l.length ≤ 100000) (hp : ∀ W, Up w W → ∀ x, Ret Tryz.prog cf (#[.agg (DP.cells x)] ++ lb) W fun r W' => r = .bool (p x) ∧ Up W W') : Ret Tryz.prog 40 #[.slice ad l.length cp, .func (.func cf) #[] lb] w fun r w' => ∃ i, r = vi i ∧ IdxD p l i ∧ Up w w' := by
  have hW := Up.refl w
  obtain ⟨w0, rfl⟩ : ∃ w0, w0 = w := ⟨_, rfl⟩
  refine Calls_start (n := 19) (m := 9) Tryz.func40 rfl rfl rfl ?_
  refine CW.S (LW.C (LW.S (CW.S (LW.M rfl ?_))))
  refine LW.pp (PEv.lenS Tryz.underlying43 (.tmp rfl)) ?_
  refine LW.pp (PEv.move (.const _)) ?_
  refine LW.T (CW.block ?_)
  refine CW.loopB (σ := Nat) (fun s w => (s ≤ l.length) ∧ (∀ y ∈ l.take s, p y = false) ∧ (Up w0 w)) (fun s => [(8, .eq (vi (s : Int)))]) ([(0, .eq _), (1, .eq _), (7, .eq _)]) (fun s => l.length - s) 0 ?_ ⟨rfl, rfl, rfl, rfl, trivial⟩ ?_
  ·exact ⟨Nat.zero_le _, by simp, hW⟩
  ·rintro k w1 ⟨hk, hn, hW⟩
   refine CW.S ?_
   refine LW.pp (PEv.lss (.tmp rfl) (.tmp rfl)) ?_
   refine LW.S ?_
   refine CW.cond (.tmp rfl) (fun h9 => ?_) (fun h9 => ?_)
   ·first | replace h9 := dT h9 | replace h9 := dF h9 | skip
    refine CW.skip (KW.then (CW.seq (CW.block (CW.S (LW.M rfl (LW.A rfl (LW.S ?_)))))))
    have hE := Els.up hE0 hW
    refine CW.region (LW.M rfl (LW.M rfl (LW.M rfl ?_)))
    obtain ⟨x, hx⟩ := getElem?_of_lt (xs := l) (i := k) (by omega)
    obtain ⟨Bx, ox, ax, hcx⟩ := hE _ x hx
    refine LW.pp (PEv.indexAddr' Tryz.underlying43 Tryz.sizeOf37 (.tmp rfl) (.tmp rfl) (by omega) ax) ?_
    refine LW.pp (PEv.loadA Tryz.isAgg37 Tryz.sizeOf37 rfl (.tmp rfl) (hcx)) ?_
    refine LW.c (enter_call (.tmp rfl) (.cons (.tmp rfl) .nil) (hen)) rfl rfl rfl rfl (hp _ hW x) ?_
    rintro _ w2 ⟨rfl, uw2⟩
    have zw2 := uw2.size
    replace hW := hW.up uw2
    replace hcx := hcx.up uw2
    refine LW.T ?_
    refine CW.cond (.tmp rfl) (fun h16 => ?_) (fun h16 => ?_)
    ·first | replace h16 := dT h16 | replace h16 := dF h16 | skip
     refine CW.S (LW.M rfl (LW.A rfl (LW.T (CW.ret (KW.block_ret (KW.then_ret (KW.then_ret (KW.block_ret (KW.then_ret ?_)))))))))
     refine KW.ret1 rfl rfl ⟨_, rfl, ?_⟩
     first | exact ⟨_, rfl, .inl ⟨k, x, rfl, hx, by simpa using h16, hn⟩, hW⟩ | exact ⟨-1, rfl, .inr ⟨rfl, by rw [show k = l.length by omega, List.take_length] at hn; exact hn⟩, hW⟩
    ·first | replace h16 := dT h16 | replace h16 := dF h16 | skip
     refine CW.skip (KW.inBlock (KW.then (CW.region ?_)))
     refine LW.pp (PEv.inc (.tmp rfl) (by omega)) ?_
     refine LW.M rfl (LW.nil (KW.round ?_))
     exact ⟨k + 1, ⟨by omega, noneD_take hx hn (by simpa using h16), hW⟩, ⟨rfl, rfl, rfl, rfl, trivial⟩, by first | omega | (dsimp only; omega)⟩
   ·first | replace h9 := dT h9 | replace h9 := dF h9 | skip
    refine CW.exit (KW.then_exit (KW.then_exit (KW.block_hit (KW.then (CW.S (LW.C (LW.T (CW.ret ?_))))))))
    refine KW.ret1 rfl rfl ⟨_, rfl, ?_⟩
    first | exact ⟨_, rfl, .inl ⟨k, x, rfl, hx, by simpa using h16, hn⟩, hW⟩ | exact ⟨-1, rfl, .inr ⟨rfl, by rw [show k = l.length by omega, List.take_length] at hn; exact hn⟩, hW⟩
theorem expl1_any (x : DP) (id : Int) (B : Nat) (w : World) (hB : Blk w B #[vi id] 3) : Ret Tryz.prog 41 #[.agg (DP.cells x), .pointer (some ⟨B, 0, none⟩)] w fun r w' => r = .bool (decide (x.dec.run = id)) ∧ Up w w' := by
  have hW := Up.refl w
  refine Calls_start (n := 8) (m := 9) Tryz.func41 rfl rfl rfl ?_
  refine CW.S ?_
  refine LW.r (REv.boxA (.tmp rfl)) rfl rfl rfl rfl ?_
  rintro _ w1 ⟨B2, rfl, NB2⟩
  have eB2 := NB2.at_
  have zB2 := NB2.size
  replace hB := hB.up NB2.up
  replace hW := hW.up NB2.up
  have hB2 := NB2.blk
  refine LW.C (LW.S (CW.region ?_))
  refine LW.pp (PEv.fieldAddr (off := 0) Tryz.underlying37 rfl rfl Tryz.sizeOf3 rfl (.tmp rfl)) ?_
  refine LW.pp (PEv.load Tryz.isAgg3 (.tmp rfl) (hB2.celln rfl)) ?_
  refine LW.pp (PEv.load Tryz.isAgg3 (.tmp rfl) (hB.celln rfl)) ?_
  refine LW.pp (PEv.eql (.tmp rfl) (.tmp rfl)) ?_
  refine LW.A rfl (LW.T (CW.ret ?_))
  refine KW.ret1 rfl rfl ⟨_, rfl, ?_⟩
  exact ⟨rfl, hW⟩
theorem Explain_any (bc : Array Go.Value) (b : Base) (id : Int) (w : World) (hC : BaseC w bc b) (hlP : b.Processes.length ≤ 400) (hlR : b.Resets.length ≤ 100000) (hlM : b.Measures.length ≤ 100000) (hlT : b.Targets.length ≤ 100000) (hV : ∀ f ∈ b.Processes, inI f.Value) : Ret Tryz.prog 20 #[.agg bc, vi id] w fun r0 w' => ∃ v, r0 = .tuple #[v, .bool (expF b id).2.1, vi (expF b id).2.2] ∧ DecE w' v (expF b id).1 ∧ Up w w' := by
  obtain ⟨w0, rfl⟩ : ∃ w0, w0 = w := ⟨_, rfl⟩
  have hS := Sep.start no w0
  refine Calls_start (n := 57) (m := 9) Tryz.func20 rfl rfl rfl ?_
  refine CW.S ?_
  refine LW.r (REv.boxA (.tmp rfl)) rfl rfl rfl rfl ?_
  rintro _ w1 ⟨B2, rfl, NB2⟩
  have eB2 := NB2.at_
  have zB2 := NB2.size
  replace hS := hS.addB NB2
  change Wx.Sep _ _ _ [_] at hS
  refine LW.r (REv.box1 (.tmp rfl) rfl) rfl rfl rfl rfl ?_
  rintro _ w2 ⟨B3, rfl, NB3⟩
  have eB3 := NB3.at_
  have zB3 := NB3.size
  replace hS := hS.addB NB3
  change Wx.Sep _ _ _ [_, _] at hS
  refine LW.r (REv.allocA Tryz.zeroValue37) rfl rfl rfl rfl ?_
  rintro _ w3 ⟨B4, rfl, NB4⟩
  have eB4 := NB4.at_
  have zB4 := NB4.size
  replace hS := hS.addB NB4
  change Wx.Sep _ _ _ [_, _, _] at hS
  refine LW.C (LW.C (LW.S ?_))
  cases hq1 : procB b id with
  | none =>
   refine CW.region ?_
   refine LW.pp (PEv.loadA Tryz.isAgg24 Tryz.sizeOf24 (hC.size) (.tmp rfl) ((hS.blk 0 rfl).agg)) ?_
   refine LW.pp (PEv.load Tryz.isAgg3 (.tmp rfl) ((hS.blk 1 rfl).celln rfl)) ?_
   refine LW.c (enter_call0 (.cons (.tmp rfl) (.cons (.tmp rfl) .nil)) (Tryz.en24)) rfl rfl rfl rfl (Process_any bc b id _ (hC.up hS.upd) (by omega)) ?_
   rintro _ w4 ⟨rfl, uw4⟩
   have zw4 := uw4.size
   replace hS := hS.up uw4
   rw [hq1]
   refine LW.M rfl (LW.pp (PEv.extract (.tmp rfl) rfl) (LW.pp (PEv.extract (.tmp rfl) rfl) ?_))
   refine LW.r (REv.allocA Tryz.zeroValue50) rfl rfl rfl rfl ?_
   rintro _ w5 ⟨B7, rfl, MB7⟩
   refine LW.s (SEv.storeA Tryz.sizeOf50 rfl (.tmp rfl) (.tmp rfl) (Fact.one _) MB7.blk rfl) rfl rfl rfl ?_
   intro w6 LB7
   have NB7 := MB7.set LB7
   clear LB7 MB7
   have eB7 := NB7.at_
   have zB7 := NB7.size
   replace hS := hS.addB NB7
   change Wx.Sep _ _ _ [_, _, _, _] at hS
   refine LW.A rfl (LW.S (CW.S (LW.M rfl ?_)))
   refine LW.pp (PEv.not (.tmp rfl)) ?_
   refine LW.T ?_
   refine CW.cond_true (.tmp rfl) ?_
   refine CW.S ?_
   refine LW.pp (PEv.build (cs := DP.cells ⟨dec0, none, 0⟩) Tryz.underlying37 Tryz.zeroValue37 Tryz.places37 .nil (by kernel_rfl)) ?_
   refine LW.s (SEv.storeA Tryz.sizeOf37 rfl (.tmp rfl) (.tmp rfl) (DP.one _) (hS.blk 2 rfl) rfl) rfl rfl rfl ?_
   intro w7 Nw7
   have zw7 := Nw7.size
   replace hS := hS.putB 2 rfl (show Set_ _ w7 _ (DP.cells ⟨dec0, none, 0⟩) _ from Nw7)
   change Wx.Sep _ _ _ [_, _, _, _] at hS
   refine LW.C (LW.C (LW.T (CW.ret (KW.then_ret ?_))))
   refine KW.retATT rfl rfl rfl rfl Tryz.isAgg37 Tryz.sizeOf37 rfl (hS.blk 2 rfl).agg ⟨_, rfl, ?_⟩
   rw [expF_none hq1]
   exact ⟨_, rfl, ⟨none, 0, rfl, Sl.nil _ _ _⟩, hS.upd⟩
  | some f =>
   refine CW.region ?_
   refine LW.pp (PEv.loadA Tryz.isAgg24 Tryz.sizeOf24 (hC.size) (.tmp rfl) ((hS.blk 0 rfl).agg)) ?_
   refine LW.pp (PEv.load Tryz.isAgg3 (.tmp rfl) ((hS.blk 1 rfl).celln rfl)) ?_
   refine LW.c (enter_call0 (.cons (.tmp rfl) (.cons (.tmp rfl) .nil)) (Tryz.en24)) rfl rfl rfl rfl (Process_any bc b id _ (hC.up hS.upd) (by omega)) ?_
   rintro _ w8 ⟨rfl, uw8⟩
   have zw8 := uw8.size
   replace hS := hS.up uw8
   rw [hq1]
   refine LW.M rfl (LW.pp (PEv.extract (.tmp rfl) rfl) (LW.pp (PEv.extract (.tmp rfl) rfl) ?_))
   refine LW.r (REv.allocA Tryz.zeroValue50) rfl rfl rfl rfl ?_
   rintro _ w9 ⟨B7, rfl, MB7⟩
   refine LW.s (SEv.storeA Tryz.sizeOf50 rfl (.tmp rfl) (.tmp rfl) (Fact.one _) MB7.blk rfl) rfl rfl rfl ?_
   intro w10 LB7
   have NB7 := MB7.set LB7
   clear LB7 MB7
   have eB7 := NB7.at_
   have zB7 := NB7.size
   replace hS := hS.addB NB7
   change Wx.Sep _ _ _ [_, _, _, _] at hS
   refine LW.A rfl (LW.S (CW.S (LW.M rfl ?_)))
   refine LW.pp (PEv.not (.tmp rfl)) ?_
   refine LW.T ?_
   refine CW.cond_false (.tmp rfl) ?_
   refine CW.skip (KW.then (CW.S ?_))
   refine LW.pp (PEv.loadA Tryz.isAgg24 Tryz.sizeOf24 (hC.size) (.tmp rfl) ((hS.blk 0 rfl).agg)) ?_
   refine LW.pp (PEv.fieldAddr (off := 11) Tryz.underlying50 rfl rfl Tryz.sizeOf3 rfl (.tmp rfl)) ?_
   refine LW.pp (PEv.load Tryz.isAgg3 (.tmp rfl) ((hS.blk 3 rfl).celln rfl)) ?_
   refine LW.pp (PEv.fieldAddr (off := 12) Tryz.underlying50 rfl rfl Tryz.sizeOf3 rfl (.tmp rfl)) ?_
   refine LW.pp (PEv.load Tryz.isAgg3 (.tmp rfl) ((hS.blk 3 rfl).celln rfl)) ?_
   refine LW.pp (PEv.fieldAddr (off := 14) Tryz.underlying50 rfl rfl Tryz.sizeOf3 rfl (.tmp rfl)) ?_
   refine LW.pp (PEv.load Tryz.isAgg3 (.tmp rfl) ((hS.blk 3 rfl).celln rfl)) ?_
   refine LW.c (enter_call0 (.cons (.tmp rfl) (.cons (.tmp rfl) (.cons (.tmp rfl) (.cons (.tmp rfl) .nil)))) (Tryz.en18)) rfl rfl rfl rfl (Decisions_any bc b f.Tool f.Chamber f.Recipe _ (hC.up hS.upd) hlP hlR hlM hlT) ?_
   rintro _ w11 ⟨v29, L, rfl, hLm, hT⟩
   replace hS := hS.join hT
   change Wx.Sep no _ _ [_, _, _, _, _, _] at hS
   have hLl : L.length ≤ 400 := by have h1 := congrArg List.length hLm; rw [List.length_map, desF_len] at h1; have h2 := rnsF_len b f.Tool f.Chamber f.Recipe; omega
   obtain ⟨ad29, cp29, rfl, _⟩ := (hS.own 4 rfl).sl (fun _ => rfl)
   have hEL : Els w11 ad29 6 DP.cells L := (hS.own 4 rfl).els (fun _ => rfl)
   refine LW.A rfl (LW.S (CW.region (LW.M rfl ?_)))
   refine LW.pp (PEv.makeFunc (.cons (.tmp rfl) .nil)) ?_
   refine LW.c (enter_call0 (.cons (.tmp rfl) (.cons (.tmp rfl) .nil)) (Tryz.en40)) rfl rfl rfl rfl (indexD_any 41 #[.pointer (some ⟨B3, 0, none⟩)] (fun x => decide (x.dec.run = id)) Tryz.en41 ad29 cp29 L _ hEL (by omega) (fun W u x => expl1_any x id B3 W ((hS.blk 1 rfl).up u))) ?_
   rintro _ w12 ⟨i, rfl, hi, uw12⟩
   have zw12 := uw12.size
   replace hS := hS.up uw12
   clear hEL
   refine LW.A rfl (LW.S (CW.S (LW.M rfl ?_)))
   refine LW.pp (PEv.lss (.tmp rfl) (.const _)) ?_
   refine LW.T ?_
   refine CW.cond (.tmp rfl) (fun h34 => ?_) (fun h34 => ?_)
   ·first | replace h34 := dT h34 | replace h34 := dF h34 | skip
    refine CW.seq ?_
    have hn := (hi.resolve_left (fun ⟨k, x, e, _⟩ => by omega)).2
    refine CW.region ?_
    refine LW.pp (PEv.build (cs := DP.cells ⟨dec0, none, 0⟩) Tryz.underlying37 Tryz.zeroValue37 Tryz.places37 .nil (by kernel_rfl)) ?_
    refine LW.s (SEv.storeA Tryz.sizeOf37 rfl (.tmp rfl) (.tmp rfl) (DP.one _) (hS.blk 2 rfl) rfl) rfl rfl rfl ?_
    intro w13 Nw13
    have zw13 := Nw13.size
    replace hS := hS.putB 2 rfl (show Set_ _ w13 _ (DP.cells ⟨dec0, none, 0⟩) _ from Nw13)
    change Wx.Sep _ _ _ [_, _, _, _, _, _] at hS
    refine LW.C (LW.C (LW.T (CW.ret (KW.then_ret ?_))))
    refine KW.retATT rfl rfl rfl rfl Tryz.isAgg37 Tryz.sizeOf37 rfl (hS.blk 2 rfl).agg ⟨_, rfl, ?_⟩
    rw [expF_no hq1 hLm hn]
    exact ⟨_, rfl, ⟨none, 0, rfl, Sl.nil _ _ _⟩, hS.upd⟩
   ·first | replace h34 := dT h34 | replace h34 := dF h34 | skip
    refine CW.skip (KW.then (CW.seq ?_))
    obtain ⟨k, x, rfl, hx, hr, hn⟩ := hi.resolve_right (fun ⟨e, _⟩ => by omega)
    have hkl := (List.getElem?_eq_some_iff.1 hx).1
    refine CW.region ?_
    refine LW.pp (PEv.fieldAddr (off := 16) Tryz.underlying50 rfl rfl Tryz.sizeOf3 rfl (.tmp rfl)) ?_
    refine LW.pp (PEv.load Tryz.isAgg3 (.tmp rfl) ((hS.blk 3 rfl).celln rfl)) ?_
    refine LW.c (enter_call0 (.cons (.tmp rfl) (.cons (.const _) .nil)) (Tryz.en26)) rfl rfl rfl rfl (Make_any f.Value 1000 _ (hV f (procB_mem hq1)) (by decide) ⟨by decide, by decide⟩) ?_
    rintro _ w14 ⟨rfl, uw14⟩
    have zw14 := uw14.size
    replace hS := hS.up uw14
    refine LW.M rfl (LW.pp (PEv.extract (.tmp rfl) rfl) (LW.pp (PEv.extract (.tmp rfl) rfl) ?_))
    refine LW.r (REv.allocA Tryz.zeroValue34) rfl rfl rfl rfl ?_
    rintro _ w15 ⟨B11, rfl, MB11⟩
    refine LW.s (SEv.storeA Tryz.sizeOf34 rfl (.tmp rfl) (.tmp rfl) (Rt.one _) MB11.blk rfl) rfl rfl rfl ?_
    intro w16 LB11
    have NB11 := MB11.set LB11
    clear LB11 MB11
    have eB11 := NB11.at_
    have zB11 := NB11.size
    replace hS := hS.addB NB11
    change Wx.Sep _ _ _ [_, _, _, _, _, _, _] at hS
    refine LW.A rfl (LW.S ?_)
    obtain ⟨Bx, ox, ax, hcx⟩ := (show Els w16 ad29 6 DP.cells L from (hS.own 4 rfl).els (fun _ => rfl)) k x hx
    subst ax
    have hnB : Bx ≠ B4 := fun e => hS.ne (i := 2) (j := 4) (by decide) rfl rfl B4 rfl (by show some Bx = some B4; rw [e])
    cases hq9 : fitsF f.Value 1000 with
    | true =>
     have h47 : decide ((mkF f.Value 1000).2 = 0) = true := by rw [mkF_fits hq9]; rfl
     refine CW.freeS 16 15 [.slice (some ⟨Bx, ox, none⟩) L.length cp29, vi (k : Int), .pointer (some ⟨Bx, ox + k * 6, none⟩), .agg x.cells, vi (mkF f.Value 1000).2, .bool true, .bool true, .agg (mkF f.Value 1000).1.cells, .slice (some ⟨Bx, ox, none⟩) L.length cp29, vi (k : Int), .pointer (some ⟨Bx, ox + k * 6, none⟩), .pointer (some ⟨Bx, ox + k * 6 + 1, none⟩), .agg x.dec.par.cells, .bool (rtB (mkF f.Value 1000).1 x.dec.par), .bool (true && rtB (mkF f.Value 1000).1 x.dec.par), undef] [14] ((· = B4)) (fun W => Blk W B4 (DP.cells ⟨dec0, none, 0⟩) 37) (fun W => Blk W B4 x.cells 37) (by kernel_rfl) rfl (by kernel_rfl) (by kernel_rfl) (by kernel_rfl) (by kernel_rfl) (by kernel_rfl) (by kernel_rfl) (by kernel_rfl) (by decide) ((hS.up (Up.drew _)).blk 2 rfl) (fun _ _ h u => h.up u) (fun _ _ h u => h.up u) ?_ ?_ (by kernel_rfl)
     ·intro W hU0
      have hU := ((Up.drew w16).fr ((· = B4))).trans hU0
      have hcW : AggAt W Bx (ox + k * 6) x.cells := fun j v hv => cell_fr (hcx j v hv) hU hnB
      have hB11 : Blk W B11 (mkF f.Value 1000).1.cells 34 := (hS.blk 6 rfl).fr hU (fun e => hS.blkNe 2 6 (by decide) rfl rfl e.symm)
      refine allL.cons ⟨fun _ => TW.p (PEv.move (.tmp rfl)) rfl, fun e => absurd e (by decide)⟩ ?_
      refine allL.cons ⟨fun _ => TW.p (PEv.move (.tmp rfl)) rfl, fun e => absurd e (by decide)⟩ ?_
      refine allL.cons ⟨fun _ => TW.p (PEv.indexAddr' Tryz.underlying43 Tryz.sizeOf37 (.tmp rfl) (.tmp rfl) hkl rfl) rfl, fun e => absurd e (by decide)⟩ ?_
      refine allL.cons ⟨fun _ => TW.p (PEv.loadA Tryz.isAgg37 Tryz.sizeOf37 rfl (.tmp rfl) (hcW)) rfl, fun e => absurd e (by decide)⟩ ?_
      refine allL.cons ⟨fun _ => TW.p (PEv.move (.tmp rfl)) rfl, fun e => absurd e (by decide)⟩ ?_
      refine allL.cons ⟨fun _ => TW.p (PEv.tr (PEv.eql (.tmp rfl) (.const _)) h47) rfl, fun e => absurd e (by decide)⟩ ?_
      refine allL.cons ⟨fun _ => TW.p (PEv.move (.tmp rfl)) rfl, fun e => absurd e (by decide)⟩ ?_
      refine allL.cons ⟨fun _ => TW.yp (PEv.loadA Tryz.isAgg34 Tryz.sizeOf34 rfl (.tmp rfl) (hB11.agg)) rfl rfl rfl rfl rfl, fun e => absurd e (by decide)⟩ ?_
      refine allL.cons ⟨fun _ => TW.yp (PEv.move (.tmp rfl)) rfl rfl rfl rfl rfl, fun e => absurd e (by decide)⟩ ?_
      refine allL.cons ⟨fun _ => TW.yp (PEv.move (.tmp rfl)) rfl rfl rfl rfl rfl, fun e => absurd e (by decide)⟩ ?_
      refine allL.cons ⟨fun _ => TW.yp (PEv.indexAddr' Tryz.underlying43 Tryz.sizeOf37 (.tmp rfl) (.tmp rfl) hkl rfl) rfl rfl rfl rfl rfl, fun e => absurd e (by decide)⟩ ?_
      refine allL.cons ⟨fun _ => TW.yp (PEv.fieldAddr (off := 1) Tryz.underlying37 rfl rfl Tryz.sizeOf34 rfl (.tmp rfl)) rfl rfl rfl rfl rfl, fun e => absurd e (by decide)⟩ ?_
      refine allL.cons ⟨fun _ => TW.yp (PEv.loadA Tryz.isAgg34 Tryz.sizeOf34 rfl (.tmp rfl) (dp_par hcW)) rfl rfl rfl rfl rfl, fun e => absurd e (by decide)⟩ ?_
      refine allL.cons ⟨fun _ => TW.yp (PEv.eqlA Tryz.eqGuardType34 (Tryz.eqRt _ _) (.tmp rfl) (.tmp rfl)) rfl rfl rfl rfl rfl, fun e => absurd e (by decide)⟩ ?_
      refine allL.cons ⟨fun _ => TW.p (PEv.pick_and (.tmp rfl) (fun _ => .tmp rfl)) rfl, fun e => absurd e (by decide)⟩ ?_
      refine allL.cons ⟨fun e => absurd rfl e, fun _ => ⟨fun hpre => SEv.mono (SEv.storeA Tryz.sizeOf37 rfl (.tmp rfl) (.tmp rfl) (DP.one x) hpre rfl) (fun W2 N => ⟨N.sto.fr, N.blk⟩), rfl, rfl⟩⟩ ?_
      exact allL.nil
     ·intro w17 hU0 hP
      have hU := ((Up.drew w16).fr ((· = B4))).trans hU0
      have zw17 := hU.size
      replace hS := hS.step 2 rfl (A' := aBlk B4 x.cells 37) hU hP (fun _ hi => .inl hi)
      change Wx.Sep no _ _ [_, _, _, _, _, _, _] at hS
      change LW _ _ _ _ _ _ _ _ ((56, .eq (.bool (true && rtB (mkF f.Value 1000).1 x.dec.par))) :: _) _
      refine LW.A rfl (LW.C (LW.T (CW.ret ?_)))
      refine KW.retATT rfl rfl rfl rfl Tryz.isAgg37 Tryz.sizeOf37 rfl (hS.blk 2 rfl).agg ⟨_, rfl, ?_⟩
      rw [expF_some hq1 hLm hx hr hn, mkF_fits hq9]
      exact ⟨_, rfl, ⟨x.ad, x.cp, rfl, usesA_get (hS.get 5 rfl) x (List.mem_of_getElem? hx)⟩, hS.upd⟩
    | false =>
     have h47 : decide ((mkF f.Value 1000).2 = 0) = false := by rw [mkFno hq9]; rfl
     refine CW.freeS 16 15 [.slice (some ⟨Bx, ox, none⟩) L.length cp29, vi (k : Int), .pointer (some ⟨Bx, ox + k * 6, none⟩), .agg x.cells, vi (mkF f.Value 1000).2, .bool false, .bool false, undef, undef, undef, undef, undef, undef, undef, .bool (false && false), undef] [14] ((· = B4)) (fun W => Blk W B4 (DP.cells ⟨dec0, none, 0⟩) 37) (fun W => Blk W B4 x.cells 37) (by kernel_rfl) rfl (by kernel_rfl) (by kernel_rfl) (by kernel_rfl) (by kernel_rfl) (by kernel_rfl) (by kernel_rfl) (by kernel_rfl) (by decide) ((hS.up (Up.drew _)).blk 2 rfl) (fun _ _ h u => h.up u) (fun _ _ h u => h.up u) ?_ ?_ (by kernel_rfl)
     ·intro W hU0
      have hU := ((Up.drew w16).fr ((· = B4))).trans hU0
      have hcW : AggAt W Bx (ox + k * 6) x.cells := fun j v hv => cell_fr (hcx j v hv) hU hnB
      have hB11 : Blk W B11 (mkF f.Value 1000).1.cells 34 := (hS.blk 6 rfl).fr hU (fun e => hS.blkNe 2 6 (by decide) rfl rfl e.symm)
      refine allL.cons ⟨fun _ => TW.p (PEv.move (.tmp rfl)) rfl, fun e => absurd e (by decide)⟩ ?_
      refine allL.cons ⟨fun _ => TW.p (PEv.move (.tmp rfl)) rfl, fun e => absurd e (by decide)⟩ ?_
      refine allL.cons ⟨fun _ => TW.p (PEv.indexAddr' Tryz.underlying43 Tryz.sizeOf37 (.tmp rfl) (.tmp rfl) hkl rfl) rfl, fun e => absurd e (by decide)⟩ ?_
      refine allL.cons ⟨fun _ => TW.p (PEv.loadA Tryz.isAgg37 Tryz.sizeOf37 rfl (.tmp rfl) (hcW)) rfl, fun e => absurd e (by decide)⟩ ?_
      refine allL.cons ⟨fun _ => TW.p (PEv.move (.tmp rfl)) rfl, fun e => absurd e (by decide)⟩ ?_
      refine allL.cons ⟨fun _ => TW.p (PEv.fa (PEv.eql (.tmp rfl) (.const _)) h47) rfl, fun e => absurd e (by decide)⟩ ?_
      refine allL.cons ⟨fun _ => TW.p (PEv.move (.tmp rfl)) rfl, fun e => absurd e (by decide)⟩ ?_
      refine allL.cons ⟨fun _ => TW.no rfl rfl rfl rfl rfl rfl, fun e => absurd e (by decide)⟩ ?_
      refine allL.cons ⟨fun _ => TW.no rfl rfl rfl rfl rfl rfl, fun e => absurd e (by decide)⟩ ?_
      refine allL.cons ⟨fun _ => TW.no rfl rfl rfl rfl rfl rfl, fun e => absurd e (by decide)⟩ ?_
      refine allL.cons ⟨fun _ => TW.no rfl rfl rfl rfl rfl rfl, fun e => absurd e (by decide)⟩ ?_
      refine allL.cons ⟨fun _ => TW.no rfl rfl rfl rfl rfl rfl, fun e => absurd e (by decide)⟩ ?_
      refine allL.cons ⟨fun _ => TW.no rfl rfl rfl rfl rfl rfl, fun e => absurd e (by decide)⟩ ?_
      refine allL.cons ⟨fun _ => TW.no rfl rfl rfl rfl rfl rfl, fun e => absurd e (by decide)⟩ ?_
      refine allL.cons ⟨fun _ => TW.p (PEv.pick_and (b := false) (.tmp rfl) (fun hp => absurd (show false = true from hp) (by decide))) rfl, fun e => absurd e (by decide)⟩ ?_
      refine allL.cons ⟨fun e => absurd rfl e, fun _ => ⟨fun hpre => SEv.mono (SEv.storeA Tryz.sizeOf37 rfl (.tmp rfl) (.tmp rfl) (DP.one x) hpre rfl) (fun W2 N => ⟨N.sto.fr, N.blk⟩), rfl, rfl⟩⟩ ?_
      exact allL.nil
     ·intro w18 hU0 hP
      have hU := ((Up.drew w16).fr ((· = B4))).trans hU0
      have zw18 := hU.size
      replace hS := hS.step 2 rfl (A' := aBlk B4 x.cells 37) hU hP (fun _ hi => .inl hi)
      change Wx.Sep no _ _ [_, _, _, _, _, _, _] at hS
      change LW _ _ _ _ _ _ _ _ ((56, .eq (.bool (false && false))) :: _) _
      refine LW.A rfl (LW.C (LW.T (CW.ret ?_)))
      refine KW.retATT rfl rfl rfl rfl Tryz.isAgg37 Tryz.sizeOf37 rfl (hS.blk 2 rfl).agg ⟨_, rfl, ?_⟩
      rw [expF_some hq1 hLm hx hr hn, mkFno hq9]
      exact ⟨_, rfl, ⟨x.ad, x.cp, rfl, usesA_get (hS.get 5 rfl) x (List.mem_of_getElem? hx)⟩, hS.upd⟩
end Go.Proofs.YtgffaeachbbjoaaGreatDoor
end
section
namespace Go.Wx
theorem OwnS.ofS {α : Type} {enc : α → Array Value} {e k : Nat} {w0 w : World} {v : Value} {xs : List α} {rest : List Asr} (h : Sep no w0 w (aOwn e k enc v xs :: rest)) : OwnS w w0.heap.size e k enc v xs := (h.own 0 rfl).rebase (fun i hi => (h.foot 0 rfl i hi).resolve_left (fun h => h))
def wI (n : Int) : Int := IntKind.i64.wrap n
def soB (y : I6) : Fact := { zeroF with Version := wI (1 + pickI (wI (y.a.tdiv 5)) 3), Day := pickI y.b 10, Gone := decide (pickI (wI (y.b.tdiv 10)) 6 = 0), Time := pickI y.c 60 }
def soP (y : I6) : Fact := { soB y with Kind := 1, ID := wI (1 + pickI y.d 9), Wafer := wI (1 + pickI y.e 4), Tool := wI ((pickI (wI (y.e.tdiv 4)) 8).tdiv 7), Chamber := wI ((pickI (wI (y.e.tdiv 32)) 6).tdiv 5), Recipe := wI (1 + wI ((pickI y.f 8).tdiv 7)), Revision := 1, Until := wI ((soB y).Time + pickI (wI (y.f.tdiv 8)) 9), Value := wI (1000 * pickI (wI (y.f.tdiv 72)) 40) }
def soM (y : I6) : Fact := { soB y with Kind := 2, ID := wI (1 + pickI y.d 9), Value := wI (pickI y.f 60 - 10) }
def soT (y : I6) : Fact := { soB y with Kind := 10, Recipe := wI (1 + wI ((pickI y.d 8).tdiv 7)), Value := pickI y.f 40 }
def soR (y : I6) : Fact := { soB y with Kind := 9, ID := wI (1 + pickI y.d 9), Tool := wI ((pickI y.e 8).tdiv 7), Chamber := wI ((pickI (wI (y.e.tdiv 8)) 6).tdiv 5) }
def soF (y : I6) : Option Fact := if pickI y.a 5 = 0 ∨ pickI y.a 5 = 1 then some (soP y) else if pickI y.a 5 = 2 then some (soM y) else if pickI y.a 5 = 3 then some (soT y) else if 0 < pickI y.f 3 then none else some (soR y)
theorem soF_p {y : I6} (h : pickI y.a 5 = 0 ∨ pickI y.a 5 = 1) : soF y = some (soP y) := if_pos h
theorem soF_m {y : I6} (h : pickI y.a 5 = 2) : soF y = some (soM y) := by unfold soF; rw [if_neg (by omega), if_pos h]
theorem soF_t {y : I6} (h : pickI y.a 5 = 3) : soF y = some (soT y) := by unfold soF; rw [if_neg (by omega), if_neg (by omega), if_pos h]
theorem soF_n {y : I6} (h0 : ¬ pickI y.a 5 = 0) (h1 : ¬ pickI y.a 5 = 1) (h2 : ¬ pickI y.a 5 = 2) (h3 : ¬ pickI y.a 5 = 3) (h : 0 < pickI y.f 3) : soF y = none := by unfold soF; rw [if_neg (by omega), if_neg h2, if_neg h3, if_pos h]
theorem soF_r {y : I6} (h0 : ¬ pickI y.a 5 = 0) (h1 : ¬ pickI y.a 5 = 1) (h2 : ¬ pickI y.a 5 = 2) (h3 : ¬ pickI y.a 5 = 3) (h : ¬ 0 < pickI y.f 3) : soF y = some (soR y) := by unfold soF; rw [if_neg (by omega), if_neg h2, if_neg h3, if_neg h]
def soL (xs : List I6) : List Fact := (xs.take 30).filterMap soF
theorem soL_len (xs : List I6) : (soL xs).length ≤ 30 := by
  unfold soL
  refine Nat.le_trans (List.length_filterMap_le _ _) ?_
  rw [List.length_take]; omega
theorem take_one {α : Type} {l : List α} {k : Nat} {x : α} (h : l[k]? = some x) : l.take (k + 1) = l.take k ++ [x] := by rw [List.take_add_one, h]; rfl
theorem soL_take {xs : List I6} {k : Nat} {y : I6} (hy : xs[k]? = some y) (hk : k < 30) : soL (xs.take (k + 1)) = soL (xs.take k) ++ (soF y).toList := by
  have hl := (List.getElem?_eq_some_iff.1 hy).1
  unfold soL
  rw [List.take_take, List.take_take, Nat.min_eq_right (by omega), Nat.min_eq_right (by omega), take_one hy, List.filterMap_append, List.filterMap_cons, List.filterMap_nil]
  cases soF y <;> rfl
theorem soL_yes {xs : List I6} {k : Nat} {y : I6} {f : Fact} (hy : xs[k]? = some y) (hk : k < 30) (h : soF y = some f) : soL (xs.take (k + 1)) = soL (xs.take k) ++ [f] := by rw [soL_take hy hk, h]; rfl
theorem soL_no {xs : List I6} {k : Nat} {y : I6} (hy : xs[k]? = some y) (hk : k < 30) (h : soF y = none) : soL (xs.take (k + 1)) = soL (xs.take k) := by rw [soL_take hy hk, h]; simp
theorem soL_end {xs : List I6} {k : Nat} (h : ¬ (k < xs.length ∧ k < 30)) : soL (xs.take k) = soL xs := by
  unfold soL
  rw [List.take_take]
  congr 1
  by_cases h1 : k < 30
  · rw [Nat.min_eq_right (by omega), List.take_of_length_le (by omega), List.take_of_length_le (by omega)]
  · rw [Nat.min_eq_left (by omega)]
def exR (i t v : Int) : Fact := { zeroF with Kind := 1, Version := 1, ID := i, Wafer := 1, Tool := 4, Recipe := 9, Revision := 1, Time := t, Until := t, Value := v }
def exT : Fact := { zeroF with Kind := 10, Version := 1, Recipe := 9, Value := 100 }
def exM (i t v : Int) : Fact := { zeroF with Kind := 2, Version := 1, ID := i, Time := t, Value := v }
def exZ : Fact := { zeroF with Kind := 9, Version := 1, ID := 1, Tool := 4, Time := 18 }
def exB : Base := ⟨[exR 1 10 0, exR 2 20 98000, exR 3 30 100000], [exM 1 15 108, exM 2 25 101], [], [], [], [], [], [], [], [exT], []⟩
def exB2 : Base := { exB with Resets := [exZ] }
def rI (n : Int) : Rt := ⟨n, 1⟩
theorem ex_des : desF exB 4 0 9 = [⟨1, rI 100, rI 0, []⟩, ⟨2, rI 98, rI 2, [1]⟩, ⟨3, rI 98, rI 2, [1]⟩] := by kernel_rfl
theorem ex_d12 : decNow exB 4 0 9 12 = ⟨0, rI 100, rI 0, []⟩ := by kernel_rfl
theorem ex_d15 : decNow exB 4 0 9 15 = ⟨0, rI 98, rI 2, [1]⟩ := by kernel_rfl
theorem ex_e2 : expF exB 2 = (⟨2, rI 98, rI 2, [1]⟩, true, 0) := by kernel_rfl
theorem ex_e3 : expF exB 3 = (⟨3, rI 98, rI 2, [1]⟩, false, 0) := by kernel_rfl
theorem ex_e4 : expF exB 4 = (dec0, false, 200) := by kernel_rfl
theorem ex_des2 : desF exB2 4 0 9 = [⟨1, rI 100, rI 0, []⟩, ⟨2, rI 100, rI 0, []⟩, ⟨3, rI 100, rI 0, []⟩] := by kernel_rfl
end Go.Wx
namespace Go.Proofs.YtgffaeachbbjoaaGreatDoor
open Go.Wx Go.RowKit
theorem pickR_any (c n : Int) (w : World) (hn : n ≠ 0) : Ret Tryz.prog 44 #[vi c, vi n] w fun r w' => r = vi (pickI c n) ∧ Up w w' := by
  have hW := Up.refl w
  refine Calls_start (n := 13) (m := 9) Tryz.func44 rfl rfl rfl ?_
  refine CW.S (LW.C (LW.S (CW.S (LW.M rfl ?_))))
  refine LW.pp (PEv.lss (.tmp rfl) (.const _)) ?_
  refine LW.T ?_
  refine CW.cond (.tmp rfl) (fun h6 => ?_) (fun h6 => ?_)
  ·first | replace h6 := dT h6 | replace h6 := dF h6 | skip
   refine CW.region (LW.M rfl ?_)
   refine LW.pp (PEv.add_w (.tmp rfl) (.const _)) ?_
   refine LW.pp (PEv.neg Tryz.underlying3 (.tmp rfl)) ?_
   refine LW.A rfl (LW.S (CW.region (LW.M rfl (LW.M rfl ?_))))
   refine LW.pp (PEv.rem (.tmp rfl) (.tmp rfl) (by omega)) ?_
   refine LW.A rfl (LW.T (CW.ret ?_))
   refine KW.ret1 rfl rfl ⟨_, rfl, ?_⟩
   exact ⟨by first | (rw [pickI, if_pos h6]) | (rw [pickI, if_neg (by omega)]), hW⟩
  ·first | replace h6 := dT h6 | replace h6 := dF h6 | skip
   refine CW.skip (KW.then (CW.S (LW.M rfl (LW.M rfl ?_))))
   refine LW.pp (PEv.rem (.tmp rfl) (.tmp rfl) (by omega)) ?_
   refine LW.A rfl (LW.T (CW.ret ?_))
   refine KW.ret1 rfl rfl ⟨_, rfl, ?_⟩
   exact ⟨by first | (rw [pickI, if_pos h6]) | (rw [pickI, if_neg (by omega)]), hW⟩
theorem pick_any (c n : Int) (w : World) (hn : n ≠ 0) : Ret Tryz.prog 13 #[vi c, vi n] w fun r w' => r = vi (pickI c n) ∧ Up w w' := by
  have hW := Up.refl w
  refine Calls_start (n := 13) (m := 9) Tryz.func13 rfl rfl rfl ?_
  refine CW.S (LW.C (LW.S (CW.S (LW.M rfl ?_))))
  refine LW.pp (PEv.lss (.tmp rfl) (.const _)) ?_
  refine LW.T ?_
  refine CW.cond (.tmp rfl) (fun h6 => ?_) (fun h6 => ?_)
  ·first | replace h6 := dT h6 | replace h6 := dF h6 | skip
   refine CW.region (LW.M rfl ?_)
   refine LW.pp (PEv.add_w (.tmp rfl) (.const _)) ?_
   refine LW.pp (PEv.neg Tryz.underlying3 (.tmp rfl)) ?_
   refine LW.A rfl (LW.S (CW.region (LW.M rfl (LW.M rfl ?_))))
   refine LW.pp (PEv.rem (.tmp rfl) (.tmp rfl) (by omega)) ?_
   refine LW.A rfl (LW.T (CW.ret ?_))
   refine KW.ret1 rfl rfl ⟨_, rfl, ?_⟩
   exact ⟨by first | (rw [pickI, if_pos h6]) | (rw [pickI, if_neg (by omega)]), hW⟩
  ·first | replace h6 := dT h6 | replace h6 := dF h6 | skip
   refine CW.skip (KW.then (CW.S (LW.M rfl (LW.M rfl ?_))))
   refine LW.pp (PEv.rem (.tmp rfl) (.tmp rfl) (by omega)) ?_
   refine LW.A rfl (LW.T (CW.ret ?_))
   refine KW.ret1 rfl rfl ⟨_, rfl, ?_⟩
   exact ⟨by first | (rw [pickI, if_pos h6]) | (rw [pickI, if_neg (by omega)]), hW⟩
set_option maxHeartbeats 4000000 in
theorem Some_any (ad : Option Addr) (cp : Nat) (xs : List I6) (w : World) (hE0 : Els w ad 6 I6.cells xs) : Ret Tryz.prog 22 #[.slice ad xs.length cp] w fun r w' => OwnS w' w.heap.size 50 19 Fact.cells r (soL xs) ∧ Up w w' := by
  obtain ⟨w0, rfl⟩ : ∃ w0, w0 = w := ⟨_, rfl⟩
  have hS := Sep.start no w0
  refine Calls_start (n := 140) (m := 9) Tryz.func22 rfl rfl rfl ?_
  refine CW.S (LW.C (LW.S (CW.region (LW.C (LW.S (CW.seq ?_))))))
  replace hS := hS.add (Up.refl _) (A' := aOwn 50 19 Fact.cells (.slice none 0 0) ([] : List Fact)) (OwnS.nil _ _ _ _ _) (fun i h => by cases h)
  change Wx.Sep _ _ _ [_] at hS
  refine CW.region (LW.C (LW.T (CW.block ?_)))
  refine CW.loopB (σ := Nat × Go.Value) (fun s w => (s.1 ≤ xs.length ∧ s.1 ≤ 30) ∧ (Wx.Sep no w0 w [aOwn 50 19 Fact.cells s.2 (soL (xs.take s.1))])) (fun s => [(4, .eq (vi (s.1 : Int))), (3, .eq (s.2))]) ([(0, .eq _), (2, .eq _)]) (fun s => xs.length - s.1) (0, .slice none 0 0) ?_ ⟨rfl, rfl, rfl, rfl, trivial⟩ ?_
  ·exact ⟨⟨Nat.zero_le _, Nat.zero_le _⟩, hS⟩
  ·rintro ⟨k, v⟩ w1 ⟨hk, hS⟩
   dsimp only at hk hS
   change CW _ _ _ _ _ _ _ ([(4, .eq (vi (k : Int))), (3, .eq (v))] ++ _) _
   refine CW.seq (CW.S (LW.M rfl (LW.M rfl ?_)))
   refine LW.pp (PEv.lenS Tryz.underlying25 (.tmp rfl)) ?_
   refine LW.pp (PEv.lss (.tmp rfl) (.tmp rfl)) ?_
   refine LW.M rfl ?_
   refine LW.g rfl rfl rfl rfl rfl rfl rfl (fun hc => PEv.move (.tmp rfl)) ?_
   refine LW.g rfl rfl rfl rfl rfl rfl rfl (fun hc => PEv.lss (by first | exact .tmp rfl | exact .cond rfl (by first | assumption | simp_all)) (.const _)) ?_
   refine LW.pp (PEv.pick_and (.tmp rfl) (fun hp => (by first | exact .const _ | exact .tmp rfl | exact .cond rfl (by first | assumption | (rw [hp]; rfl) | (rw [hc, hp]; rfl) | simp_all)))) ?_
   refine LW.T ?_
   refine CW.cond (.tmp rfl) (fun h14 => ?_) (fun h14 => ?_)
   ·first | replace h14 := dT h14 | replace h14 := dF h14 | skip
    refine CW.skip (KW.then (CW.seq (CW.block (CW.seq ?_))))
    have hE := hE0.up hS.upd
    have hkl : k < xs.length ∧ k < 30 := by simp at h14; omega
    refine CW.region (LW.M rfl (LW.M rfl ?_))
    obtain ⟨y, hy⟩ := getElem?_of_lt (xs := xs) (i := k) (by omega)
    obtain ⟨By, oy, ay, hcy⟩ := hE _ y hy
    refine LW.pp (PEv.indexAddr' Tryz.underlying25 Tryz.sizeOf81 (.tmp rfl) (.tmp rfl) (by omega) ay) ?_
    refine LW.pp (PEv.loadA Tryz.isAgg81 Tryz.sizeOf81 rfl (.tmp rfl) (hcy)) ?_
    refine LW.r (REv.allocA Tryz.zeroValue81) rfl rfl rfl rfl ?_
    rintro _ w2 ⟨B5, rfl, MB5⟩
    refine LW.s (SEv.storeA Tryz.sizeOf81 rfl (.tmp rfl) (.tmp rfl) (I6.one _) MB5.blk rfl) rfl rfl rfl ?_
    intro w3 LB5
    have NB5 := MB5.set LB5
    clear LB5 MB5
    have eB5 := NB5.at_
    have zB5 := NB5.size
    replace hcy := hcy.up NB5.up
    replace hS := hS.addB NB5
    change Wx.Sep _ _ _ [_, _] at hS
    refine LW.S ?_
    refine CW.free 18 [.eq (.pointer (some ⟨B5, 0, none⟩)), .eq (vi (y.a)), .eq (vi (wI (y.a.tdiv 5))), .eq (vi (pickI (wI (y.a.tdiv 5)) 3)), .eq (vi (wI (1 + pickI (wI (y.a.tdiv 5)) 3))), .eq (.pointer (some ⟨B5, 1, none⟩)), .eq (vi (y.b)), .eq (vi (pickI y.b 10)), .eq (.pointer (some ⟨B5, 1, none⟩)), .eq (vi (y.b)), .eq (vi (wI (y.b.tdiv 10))), .eq (vi (pickI (wI (y.b.tdiv 10)) 6)), .eq (.bool (decide (pickI (wI (y.b.tdiv 10)) 6 = 0))), .eq (.pointer (some ⟨B5, 2, none⟩)), .eq (vi (y.c)), .eq (vi (pickI y.c 60)), .eq (.agg (soB y).cells), .pred fun v W => ∃ B, v = .pointer (some ⟨B, 0, none⟩) ∧ w3.drew.heap.size ≤ B ∧ Blk W B zeroF.cells 50] [6, 37] (by kernel_rfl) rfl (by kernel_rfl) (by kernel_rfl) (by kernel_rfl) (by kernel_rfl) (by kernel_rfl) (by kernel_rfl) (by kernel_rfl) ⟨PhU.eq _, PhU.eq _, PhU.eq _, PhU.eq _, PhU.eq _, PhU.eq _, PhU.eq _, PhU.eq _, PhU.eq _, PhU.eq _, PhU.eq _, PhU.eq _, PhU.eq _, PhU.eq _, PhU.eq _, PhU.eq _, PhU.eq _, PhU.pred fun _ _ _ h u => let ⟨B, e, hz, hb⟩ := h; ⟨B, e, hz, hb.up u⟩, trivial⟩ ?_ ?_
    ·intro W hU0
     have hU := (Up.drew w3).trans hU0
     have zU0 := hU0.size
     refine allL.cons ⟨rfl, TU.p (PEv.indexArr (j := 0) Tryz.underlying81 Tryz.sizeOf3 (.tmp rfl) (.const _) (by decide)) rfl⟩ ?_
     refine allL.cons ⟨rfl, TU.p (PEv.load Tryz.isAgg3 (.tmp rfl) (((hS.blk 1 rfl).up hU).celln rfl)) rfl⟩ ?_
     refine allL.cons ⟨rfl, TU.p (PEv.quo (.tmp rfl) (.const _) (by decide)) rfl⟩ ?_
     refine allL.cons ⟨rfl, TU.c (enter_call0 (.cons (.tmp rfl) (.cons (.const _) .nil)) (Tryz.en44)) (pickR_any _ _ _ (by decide)) (by rintro _ W1 ⟨rfl, u⟩; exact ⟨u, rfl⟩)⟩ ?_
     refine allL.cons ⟨rfl, TU.p (PEv.add_w (.const _) (.tmp rfl)) rfl⟩ ?_
     refine allL.cons ⟨rfl, TU.p (PEv.indexArr (j := 1) Tryz.underlying81 Tryz.sizeOf3 (.tmp rfl) (.const _) (by decide)) rfl⟩ ?_
     refine allL.cons ⟨rfl, TU.p (PEv.load Tryz.isAgg3 (.tmp rfl) (((hS.blk 1 rfl).up hU).celln rfl)) rfl⟩ ?_
     refine allL.cons ⟨rfl, TU.c (enter_call0 (.cons (.tmp rfl) (.cons (.const _) .nil)) (Tryz.en44)) (pickR_any _ _ _ (by decide)) (by rintro _ W1 ⟨rfl, u⟩; exact ⟨u, rfl⟩)⟩ ?_
     refine allL.cons ⟨rfl, TU.p (PEv.indexArr (j := 1) Tryz.underlying81 Tryz.sizeOf3 (.tmp rfl) (.const _) (by decide)) rfl⟩ ?_
     refine allL.cons ⟨rfl, TU.p (PEv.load Tryz.isAgg3 (.tmp rfl) (((hS.blk 1 rfl).up hU).celln rfl)) rfl⟩ ?_
     refine allL.cons ⟨rfl, TU.p (PEv.quo (.tmp rfl) (.const _) (by decide)) rfl⟩ ?_
     refine allL.cons ⟨rfl, TU.c (enter_call0 (.cons (.tmp rfl) (.cons (.const _) .nil)) (Tryz.en44)) (pickR_any _ _ _ (by decide)) (by rintro _ W1 ⟨rfl, u⟩; exact ⟨u, rfl⟩)⟩ ?_
     refine allL.cons ⟨rfl, TU.p (PEv.eql (.tmp rfl) (.const _)) rfl⟩ ?_
     refine allL.cons ⟨rfl, TU.p (PEv.indexArr (j := 2) Tryz.underlying81 Tryz.sizeOf3 (.tmp rfl) (.const _) (by decide)) rfl⟩ ?_
     refine allL.cons ⟨rfl, TU.p (PEv.load Tryz.isAgg3 (.tmp rfl) (((hS.blk 1 rfl).up hU).celln rfl)) rfl⟩ ?_
     refine allL.cons ⟨rfl, TU.c (enter_call0 (.cons (.tmp rfl) (.cons (.const _) .nil)) (Tryz.en44)) (pickR_any _ _ _ (by decide)) (by rintro _ W1 ⟨rfl, u⟩; exact ⟨u, rfl⟩)⟩ ?_
     refine allL.cons ⟨rfl, TU.p (PEv.build (cs := (soB y).cells) Tryz.underlying50 Tryz.zeroValue50 Tryz.places50 (.cons (.tmp rfl) (.cons (.tmp rfl) (.cons (.tmp rfl) (.cons (.tmp rfl) .nil)))) rfl) rfl⟩ ?_
     refine allL.cons ⟨rfl, TU.r (REv.allocA Tryz.zeroValue50) (fun v W' h => let ⟨B, e, N⟩ := h; ⟨N.up, B, e, by rw [N.at_]; exact zU0, N.blk⟩)⟩ ?_
     exact allL.nil
    ·intro w4 g hU0 hg
     have hU := (Up.drew w3).trans hU0
     have zw4 := hU.size
     obtain ⟨B6, e6, z6, hB6⟩ : ∃ B, g 6 = .pointer (some ⟨B, 0, none⟩) ∧ w3.drew.heap.size ≤ B ∧ Blk w4 B zeroF.cells 50 := hg 17 _ 6 (by decide) rfl rfl
     have e37 : g 37 = .agg (soB y).cells := hg 16 _ 37 (by decide) rfl rfl
     change LW _ _ _ _ _ _ _ _ ((6, .eq (g 6)) :: (37, .eq (g 37)) :: _) _
     rw [e6, e37]
     clear hg e6 e37
     replace hS := (hS.up (Up.drew _)).add hU0 (A' := aBlk B6 zeroF.cells 50) hB6 (fun i (e : i = B6) => by omega)
     change Wx.Sep no w0 _ [_, _, _] at hS
     refine LW.s (SEv.storeA Tryz.sizeOf50 rfl (.tmp rfl) (.tmp rfl) (Fact.one _) (hS.blk 2 rfl) rfl) rfl rfl rfl ?_
     intro w5 Nw5
     have zw5 := Nw5.size
     replace hS := hS.putB 2 rfl (show Set_ _ w5 _ ((soB y).cells) _ from Nw5)
     change Wx.Sep _ _ _ [_, _, _] at hS
     refine LW.S (CW.S ?_)
     refine LW.pp (PEv.indexArr (j := 0) Tryz.underlying81 Tryz.sizeOf3 (.tmp rfl) (.const _) (by decide)) ?_
     refine LW.pp (PEv.load Tryz.isAgg3 (.tmp rfl) ((hS.blk 1 rfl).celln rfl)) ?_
     refine LW.c (enter_call0 (.cons (.tmp rfl) (.cons (.const _) .nil)) (Tryz.en44)) rfl rfl rfl rfl (pickR_any _ _ _ (by decide)) ?_
     rintro _ w6 ⟨rfl, uw6⟩
     have zw6 := uw6.size
     replace hS := hS.up uw6
     refine LW.T (CW.block (CW.seq (CW.S ?_)))
     refine LW.pp (PEv.eql (.tmp rfl) (.const _)) ?_
     refine LW.A rfl (LW.T ?_)
     refine CW.cond (.tmp rfl) (fun h62 => ?_) (fun h62 => ?_)
     ·first | replace h62 := dT h62 | replace h62 := dF h62 | skip
      refine CW.skip (KW.then ?_)
      refine CW.cond (.tmp rfl) (fun h62 => ?_) (fun h62 => ?_)
      ·first | replace h62 := dT h62 | replace h62 := dF h62 | skip
       refine CW.S ?_
       refine LW.pp (PEv.fieldAddr (off := 0) Tryz.underlying50 rfl rfl Tryz.sizeOf3 rfl (.tmp rfl)) ?_
       refine LW.s (SEv.store Tryz.sizeOf3 (.tmp rfl) (.const _) rfl (hS.blk 2 rfl) (Nat.le_of_ble_eq_true rfl)) rfl rfl rfl ?_
       intro w7 Nw7
       have zw7 := Nw7.size
       replace hS := hS.putB 2 rfl (show Set_ _ w7 _ (({ soB y with Kind := 1 } : Fact).cells) _ from Nw7)
       change Wx.Sep _ _ _ [_, _, _] at hS
       refine LW.S (CW.region ?_)
       refine LW.pp (PEv.indexArr (j := 3) Tryz.underlying81 Tryz.sizeOf3 (.tmp rfl) (.const _) (by decide)) ?_
       refine LW.pp (PEv.load Tryz.isAgg3 (.tmp rfl) ((hS.blk 1 rfl).celln rfl)) ?_
       refine LW.c (enter_call0 (.cons (.tmp rfl) (.cons (.const _) .nil)) (Tryz.en44)) rfl rfl rfl rfl (pickR_any _ _ _ (by decide)) ?_
       rintro _ w8 ⟨rfl, uw8⟩
       have zw8 := uw8.size
       replace hS := hS.up uw8
       refine LW.pp (PEv.add_w (.const _) (.tmp rfl)) ?_
       refine LW.pp (PEv.fieldAddr (off := 1) Tryz.underlying50 rfl rfl Tryz.sizeOf3 rfl (.tmp rfl)) ?_
       refine LW.s (SEv.store Tryz.sizeOf3 (.tmp rfl) (.tmp rfl) rfl (hS.blk 2 rfl) (Nat.le_of_ble_eq_true rfl)) rfl rfl rfl ?_
       intro w9 Nw9
       have zw9 := Nw9.size
       replace hS := hS.putB 2 rfl (show Set_ _ w9 _ (({ soB y with Kind := 1, ID := wI (1 + pickI y.d 9) } : Fact).cells) _ from Nw9)
       change Wx.Sep _ _ _ [_, _, _] at hS
       refine LW.S (CW.region ?_)
       refine LW.pp (PEv.indexArr (j := 4) Tryz.underlying81 Tryz.sizeOf3 (.tmp rfl) (.const _) (by decide)) ?_
       refine LW.pp (PEv.load Tryz.isAgg3 (.tmp rfl) ((hS.blk 1 rfl).celln rfl)) ?_
       refine LW.c (enter_call0 (.cons (.tmp rfl) (.cons (.const _) .nil)) (Tryz.en44)) rfl rfl rfl rfl (pickR_any _ _ _ (by decide)) ?_
       rintro _ w10 ⟨rfl, uw10⟩
       have zw10 := uw10.size
       replace hS := hS.up uw10
       refine LW.pp (PEv.add_w (.const _) (.tmp rfl)) ?_
       refine LW.pp (PEv.fieldAddr (off := 7) Tryz.underlying50 rfl rfl Tryz.sizeOf3 rfl (.tmp rfl)) ?_
       refine LW.s (SEv.store Tryz.sizeOf3 (.tmp rfl) (.tmp rfl) rfl (hS.blk 2 rfl) (Nat.le_of_ble_eq_true rfl)) rfl rfl rfl ?_
       intro w11 Nw11
       have zw11 := Nw11.size
       replace hS := hS.putB 2 rfl (show Set_ _ w11 _ (({ soB y with Kind := 1, ID := wI (1 + pickI y.d 9), Wafer := wI (1 + pickI y.e 4) } : Fact).cells) _ from Nw11)
       change Wx.Sep _ _ _ [_, _, _] at hS
       refine LW.S (CW.region ?_)
       refine LW.pp (PEv.indexArr (j := 4) Tryz.underlying81 Tryz.sizeOf3 (.tmp rfl) (.const _) (by decide)) ?_
       refine LW.pp (PEv.load Tryz.isAgg3 (.tmp rfl) ((hS.blk 1 rfl).celln rfl)) ?_
       refine LW.pp (PEv.quo (.tmp rfl) (.const _) (by decide)) ?_
       refine LW.c (enter_call0 (.cons (.tmp rfl) (.cons (.const _) .nil)) (Tryz.en44)) rfl rfl rfl rfl (pickR_any _ _ _ (by decide)) ?_
       rintro _ w12 ⟨rfl, uw12⟩
       have zw12 := uw12.size
       replace hS := hS.up uw12
       refine LW.pp (PEv.quo (.tmp rfl) (.const _) (by decide)) ?_
       refine LW.pp (PEv.fieldAddr (off := 11) Tryz.underlying50 rfl rfl Tryz.sizeOf3 rfl (.tmp rfl)) ?_
       refine LW.s (SEv.store Tryz.sizeOf3 (.tmp rfl) (.tmp rfl) rfl (hS.blk 2 rfl) (Nat.le_of_ble_eq_true rfl)) rfl rfl rfl ?_
       intro w13 Nw13
       have zw13 := Nw13.size
       replace hS := hS.putB 2 rfl (show Set_ _ w13 _ (({ soB y with Kind := 1, ID := wI (1 + pickI y.d 9), Wafer := wI (1 + pickI y.e 4), Tool := wI ((pickI (wI (y.e.tdiv 4)) 8).tdiv 7) } : Fact).cells) _ from Nw13)
       change Wx.Sep _ _ _ [_, _, _] at hS
       refine LW.S (CW.region ?_)
       refine LW.pp (PEv.indexArr (j := 4) Tryz.underlying81 Tryz.sizeOf3 (.tmp rfl) (.const _) (by decide)) ?_
       refine LW.pp (PEv.load Tryz.isAgg3 (.tmp rfl) ((hS.blk 1 rfl).celln rfl)) ?_
       refine LW.pp (PEv.quo (.tmp rfl) (.const _) (by decide)) ?_
       refine LW.c (enter_call0 (.cons (.tmp rfl) (.cons (.const _) .nil)) (Tryz.en44)) rfl rfl rfl rfl (pickR_any _ _ _ (by decide)) ?_
       rintro _ w14 ⟨rfl, uw14⟩
       have zw14 := uw14.size
       replace hS := hS.up uw14
       refine LW.pp (PEv.quo (.tmp rfl) (.const _) (by decide)) ?_
       refine LW.pp (PEv.fieldAddr (off := 12) Tryz.underlying50 rfl rfl Tryz.sizeOf3 rfl (.tmp rfl)) ?_
       refine LW.s (SEv.store Tryz.sizeOf3 (.tmp rfl) (.tmp rfl) rfl (hS.blk 2 rfl) (Nat.le_of_ble_eq_true rfl)) rfl rfl rfl ?_
       intro w15 Nw15
       have zw15 := Nw15.size
       replace hS := hS.putB 2 rfl (show Set_ _ w15 _ (({ soB y with Kind := 1, ID := wI (1 + pickI y.d 9), Wafer := wI (1 + pickI y.e 4), Tool := wI ((pickI (wI (y.e.tdiv 4)) 8).tdiv 7), Chamber := wI ((pickI (wI (y.e.tdiv 32)) 6).tdiv 5) } : Fact).cells) _ from Nw15)
       change Wx.Sep _ _ _ [_, _, _] at hS
       refine LW.S (CW.region ?_)
       refine LW.pp (PEv.indexArr (j := 5) Tryz.underlying81 Tryz.sizeOf3 (.tmp rfl) (.const _) (by decide)) ?_
       refine LW.pp (PEv.load Tryz.isAgg3 (.tmp rfl) ((hS.blk 1 rfl).celln rfl)) ?_
       refine LW.c (enter_call0 (.cons (.tmp rfl) (.cons (.const _) .nil)) (Tryz.en44)) rfl rfl rfl rfl (pickR_any _ _ _ (by decide)) ?_
       rintro _ w16 ⟨rfl, uw16⟩
       have zw16 := uw16.size
       replace hS := hS.up uw16
       refine LW.pp (PEv.quo (.tmp rfl) (.const _) (by decide)) ?_
       refine LW.pp (PEv.add_w (.const _) (.tmp rfl)) ?_
       refine LW.pp (PEv.fieldAddr (off := 14) Tryz.underlying50 rfl rfl Tryz.sizeOf3 rfl (.tmp rfl)) ?_
       refine LW.s (SEv.store Tryz.sizeOf3 (.tmp rfl) (.tmp rfl) rfl (hS.blk 2 rfl) (Nat.le_of_ble_eq_true rfl)) rfl rfl rfl ?_
       intro w17 Nw17
       have zw17 := Nw17.size
       replace hS := hS.putB 2 rfl (show Set_ _ w17 _ (({ soB y with Kind := 1, ID := wI (1 + pickI y.d 9), Wafer := wI (1 + pickI y.e 4), Tool := wI ((pickI (wI (y.e.tdiv 4)) 8).tdiv 7), Chamber := wI ((pickI (wI (y.e.tdiv 32)) 6).tdiv 5), Recipe := wI (1 + wI ((pickI y.f 8).tdiv 7)) } : Fact).cells) _ from Nw17)
       change Wx.Sep _ _ _ [_, _, _] at hS
       refine LW.S (CW.region ?_)
       refine LW.pp (PEv.fieldAddr (off := 15) Tryz.underlying50 rfl rfl Tryz.sizeOf3 rfl (.tmp rfl)) ?_
       refine LW.s (SEv.store Tryz.sizeOf3 (.tmp rfl) (.const _) rfl (hS.blk 2 rfl) (Nat.le_of_ble_eq_true rfl)) rfl rfl rfl ?_
       intro w18 Nw18
       have zw18 := Nw18.size
       replace hS := hS.putB 2 rfl (show Set_ _ w18 _ (({ soB y with Kind := 1, ID := wI (1 + pickI y.d 9), Wafer := wI (1 + pickI y.e 4), Tool := wI ((pickI (wI (y.e.tdiv 4)) 8).tdiv 7), Chamber := wI ((pickI (wI (y.e.tdiv 32)) 6).tdiv 5), Recipe := wI (1 + wI ((pickI y.f 8).tdiv 7)), Revision := 1 } : Fact).cells) _ from Nw18)
       change Wx.Sep _ _ _ [_, _, _] at hS
       refine LW.S ?_
       refine CW.draws_then 8 (by kernel_rfl) (by kernel_rfl) (by kernel_rfl) (by kernel_rfl) (by kernel_rfl) rfl rfl ?_
       refine HW.pp (PEv.fieldAddr (off := 5) Tryz.underlying50 rfl rfl Tryz.sizeOf3 rfl (.tmp rfl)) ?_
       refine HW.pp (PEv.load Tryz.isAgg3 (.tmp rfl) ((hS.blk 2 rfl).celln rfl)) ?_
       refine HW.pp (PEv.indexArr (j := 5) Tryz.underlying81 Tryz.sizeOf3 (.tmp rfl) (.const _) (by decide)) ?_
       refine HW.pp (PEv.load Tryz.isAgg3 (.tmp rfl) ((hS.blk 1 rfl).celln rfl)) ?_
       refine HW.pp (PEv.quo (.tmp rfl) (.const _) (by decide)) ?_
       refine HW.c (fun a w _ ha => enter_call0 (.cons (.tmp rfl) (.cons (.const _) .nil)) (Tryz.en44) a ha) rfl rfl (fun w hu => pickR_any _ _ w (by decide)) ?_
       refine HW.pp (PEv.add_w (.tmp rfl) (.tmp rfl)) ?_
       refine HW.pp (PEv.fieldAddr (off := 6) Tryz.underlying50 rfl rfl Tryz.sizeOf3 rfl (.tmp rfl)) ?_
       refine HW.nil ?_
       intro w19 uw19
       have zw19 := uw19.size
       replace hS := hS.up uw19
       refine LW.s (SEv.store Tryz.sizeOf3 (.tmp rfl) (.tmp rfl) rfl (hS.blk 2 rfl) (Nat.le_of_ble_eq_true rfl)) rfl rfl rfl ?_
       intro w20 Nw20
       have zw20 := Nw20.size
       replace hS := hS.putB 2 rfl (show Set_ _ w20 _ (({ soB y with Kind := 1, ID := wI (1 + pickI y.d 9), Wafer := wI (1 + pickI y.e 4), Tool := wI ((pickI (wI (y.e.tdiv 4)) 8).tdiv 7), Chamber := wI ((pickI (wI (y.e.tdiv 32)) 6).tdiv 5), Recipe := wI (1 + wI ((pickI y.f 8).tdiv 7)), Revision := 1, Until := wI ((soB y).Time + pickI (wI (y.f.tdiv 8)) 9) } : Fact).cells) _ from Nw20)
       change Wx.Sep _ _ _ [_, _, _] at hS
       refine LW.T (CW.region ?_)
       refine LW.pp (PEv.indexArr (j := 5) Tryz.underlying81 Tryz.sizeOf3 (.tmp rfl) (.const _) (by decide)) ?_
       refine LW.pp (PEv.load Tryz.isAgg3 (.tmp rfl) ((hS.blk 1 rfl).celln rfl)) ?_
       refine LW.pp (PEv.quo (.tmp rfl) (.const _) (by decide)) ?_
       refine LW.c (enter_call0 (.cons (.tmp rfl) (.cons (.const _) .nil)) (Tryz.en44)) rfl rfl rfl rfl (pickR_any _ _ _ (by decide)) ?_
       rintro _ w21 ⟨rfl, uw21⟩
       have zw21 := uw21.size
       replace hS := hS.up uw21
       refine LW.pp (PEv.mul_w (.const _) (.tmp rfl)) ?_
       refine LW.pp (PEv.fieldAddr (off := 16) Tryz.underlying50 rfl rfl Tryz.sizeOf3 rfl (.tmp rfl)) ?_
       refine LW.s (SEv.store Tryz.sizeOf3 (.tmp rfl) (.tmp rfl) rfl (hS.blk 2 rfl) (Nat.le_of_ble_eq_true rfl)) rfl rfl rfl ?_
       intro w22 Nw22
       have zw22 := Nw22.size
       replace hS := hS.putB 2 rfl (show Set_ _ w22 _ (({ soB y with Kind := 1, ID := wI (1 + pickI y.d 9), Wafer := wI (1 + pickI y.e 4), Tool := wI ((pickI (wI (y.e.tdiv 4)) 8).tdiv 7), Chamber := wI ((pickI (wI (y.e.tdiv 32)) 6).tdiv 5), Recipe := wI (1 + wI ((pickI y.f 8).tdiv 7)), Revision := 1, Until := wI ((soB y).Time + pickI (wI (y.f.tdiv 8)) 9), Value := wI (1000 * pickI (wI (y.f.tdiv 72)) 40) } : Fact).cells) _ from Nw22)
       change Wx.Sep _ _ _ [_, _, _] at hS
       refine LW.nil (KW.inBlock (KW.then ?_))
       first | (have hso := soF_p (y := y) (by omega); change Wx.Sep no w0 _ [_, _, aBlk B6 (soP y).cells _] at hS; generalize soP y = ff at hS hso) | (have hso := soF_m (y := y) (by omega); change Wx.Sep no w0 _ [_, _, aBlk B6 (soM y).cells _] at hS; generalize soM y = ff at hS hso) | (have hso := soF_t (y := y) (by omega); change Wx.Sep no w0 _ [_, _, aBlk B6 (soT y).cells _] at hS; generalize soT y = ff at hS hso) | (have hso := soF_r (y := y) (by omega) (by omega) (by omega) (by omega) (by omega); change Wx.Sep no w0 _ [_, _, aBlk B6 (soR y).cells _] at hS; generalize soR y = ff at hS hso)
       have hsl := soL_len (xs.take k)
       refine CW.region (LW.M rfl ?_)
       refine LW.pp (PEv.loadA Tryz.isAgg50 Tryz.sizeOf50 rfl (.tmp rfl) ((hS.blk 2 rfl).agg)) ?_
       refine LW.r (REv.buildSlice (xs := [ff]) (enc := Fact.cells) (mk := fun f : Fact => .agg f.cells) Tryz.underlying22 Tryz.sizeOf50 Tryz.zeroValue50 rfl (by decide) (fun _ => rfl) (fun _ => rfl) (.cons (.tmp rfl) .nil) rfl) rfl rfl rfl rfl ?_
       rintro _ w23 ⟨B137, cB137, rfl, NB137, yB137, xB137⟩
       have eB137 := NB137.at_
       have zB137 := NB137.size
       replace hS := hS.up NB137.up
       have hE137 := xB137
       refine LW.r (REv.appendF (enc := Fact.cells) (bytes := 160) (i := Tryz.t50) Tryz.underlying22 (by kernel_rfl) rfl rfl rfl rfl (by decide) (fun _ => rfl) Fact.one (.tmp rfl) (.tmp rfl) (hS.own 0 rfl) (Sl.of_els hE137) (by have := hsl; simp [maxLen]; omega) (by have := hsl; simp; omega)) rfl rfl rfl rfl ?_
       intro v138 w24 Gw24
       have zw24 := Gw24.fr.size
       replace hS := hS.stp 0 rfl Gw24
       change Wx.Sep _ _ _ [_, _, _] at hS
       refine LW.A rfl (LW.nil (KW.inBlock (KW.then (CW.region (LW.M rfl ?_)))))
       refine LW.pp (PEv.inc (.tmp rfl) (by omega)) ?_
       refine LW.A rfl (LW.nil (KW.round ?_))
       first | exact ⟨(k + 1, v138), ⟨⟨by show k + 1 ≤ _; omega, by show k + 1 ≤ _; omega⟩, by first | (rw [soL_yes hy hkl.2 hso]; exact hS.take 1) | (rw [soL_no hy hkl.2 hso]; exact hS.take 1)⟩, ⟨rfl, rfl, rfl, rfl, trivial⟩, by show xs.length - (k + 1) < xs.length - k; omega⟩ | exact ⟨(k + 1, v), ⟨⟨by show k + 1 ≤ _; omega, by show k + 1 ≤ _; omega⟩, by first | (rw [soL_yes hy hkl.2 hso]; exact hS.take 1) | (rw [soL_no hy hkl.2 hso]; exact hS.take 1)⟩, ⟨rfl, rfl, rfl, rfl, trivial⟩, by show xs.length - (k + 1) < xs.length - k; omega⟩
      ·first | replace h62 := dT h62 | replace h62 := dF h62 | skip
       refine CW.S ?_
       refine LW.pp (PEv.eql (.tmp rfl) (.const _)) ?_
       refine LW.A rfl (LW.T ?_)
       refine CW.cond (.tmp rfl) (fun h109 => ?_) (fun h109 => ?_)
       ·first | replace h109 := dT h109 | replace h109 := dF h109 | skip
        refine CW.S ?_
        refine LW.pp (PEv.fieldAddr (off := 0) Tryz.underlying50 rfl rfl Tryz.sizeOf3 rfl (.tmp rfl)) ?_
        refine LW.s (SEv.store Tryz.sizeOf3 (.tmp rfl) (.const _) rfl (hS.blk 2 rfl) (Nat.le_of_ble_eq_true rfl)) rfl rfl rfl ?_
        intro w25 Nw25
        have zw25 := Nw25.size
        replace hS := hS.putB 2 rfl (show Set_ _ w25 _ (({ soB y with Kind := 2 } : Fact).cells) _ from Nw25)
        change Wx.Sep _ _ _ [_, _, _] at hS
        refine LW.S (CW.region ?_)
        refine LW.pp (PEv.indexArr (j := 3) Tryz.underlying81 Tryz.sizeOf3 (.tmp rfl) (.const _) (by decide)) ?_
        refine LW.pp (PEv.load Tryz.isAgg3 (.tmp rfl) ((hS.blk 1 rfl).celln rfl)) ?_
        refine LW.c (enter_call0 (.cons (.tmp rfl) (.cons (.const _) .nil)) (Tryz.en44)) rfl rfl rfl rfl (pickR_any _ _ _ (by decide)) ?_
        rintro _ w26 ⟨rfl, uw26⟩
        have zw26 := uw26.size
        replace hS := hS.up uw26
        refine LW.pp (PEv.add_w (.const _) (.tmp rfl)) ?_
        refine LW.pp (PEv.fieldAddr (off := 1) Tryz.underlying50 rfl rfl Tryz.sizeOf3 rfl (.tmp rfl)) ?_
        refine LW.s (SEv.store Tryz.sizeOf3 (.tmp rfl) (.tmp rfl) rfl (hS.blk 2 rfl) (Nat.le_of_ble_eq_true rfl)) rfl rfl rfl ?_
        intro w27 Nw27
        have zw27 := Nw27.size
        replace hS := hS.putB 2 rfl (show Set_ _ w27 _ (({ soB y with Kind := 2, ID := wI (1 + pickI y.d 9) } : Fact).cells) _ from Nw27)
        change Wx.Sep _ _ _ [_, _, _] at hS
        refine LW.T (CW.region ?_)
        refine LW.pp (PEv.indexArr (j := 5) Tryz.underlying81 Tryz.sizeOf3 (.tmp rfl) (.const _) (by decide)) ?_
        refine LW.pp (PEv.load Tryz.isAgg3 (.tmp rfl) ((hS.blk 1 rfl).celln rfl)) ?_
        refine LW.c (enter_call0 (.cons (.tmp rfl) (.cons (.const _) .nil)) (Tryz.en44)) rfl rfl rfl rfl (pickR_any _ _ _ (by decide)) ?_
        rintro _ w28 ⟨rfl, uw28⟩
        have zw28 := uw28.size
        replace hS := hS.up uw28
        refine LW.pp (PEv.sub_w (.tmp rfl) (.const _)) ?_
        refine LW.pp (PEv.fieldAddr (off := 16) Tryz.underlying50 rfl rfl Tryz.sizeOf3 rfl (.tmp rfl)) ?_
        refine LW.s (SEv.store Tryz.sizeOf3 (.tmp rfl) (.tmp rfl) rfl (hS.blk 2 rfl) (Nat.le_of_ble_eq_true rfl)) rfl rfl rfl ?_
        intro w29 Nw29
        have zw29 := Nw29.size
        replace hS := hS.putB 2 rfl (show Set_ _ w29 _ (({ soB y with Kind := 2, ID := wI (1 + pickI y.d 9), Value := wI (pickI y.f 60 - 10) } : Fact).cells) _ from Nw29)
        change Wx.Sep _ _ _ [_, _, _] at hS
        refine LW.nil (KW.inBlock (KW.then ?_))
        first | (have hso := soF_p (y := y) (by omega); change Wx.Sep no w0 _ [_, _, aBlk B6 (soP y).cells _] at hS; generalize soP y = ff at hS hso) | (have hso := soF_m (y := y) (by omega); change Wx.Sep no w0 _ [_, _, aBlk B6 (soM y).cells _] at hS; generalize soM y = ff at hS hso) | (have hso := soF_t (y := y) (by omega); change Wx.Sep no w0 _ [_, _, aBlk B6 (soT y).cells _] at hS; generalize soT y = ff at hS hso) | (have hso := soF_r (y := y) (by omega) (by omega) (by omega) (by omega) (by omega); change Wx.Sep no w0 _ [_, _, aBlk B6 (soR y).cells _] at hS; generalize soR y = ff at hS hso)
        have hsl := soL_len (xs.take k)
        refine CW.region (LW.M rfl ?_)
        refine LW.pp (PEv.loadA Tryz.isAgg50 Tryz.sizeOf50 rfl (.tmp rfl) ((hS.blk 2 rfl).agg)) ?_
        refine LW.r (REv.buildSlice (xs := [ff]) (enc := Fact.cells) (mk := fun f : Fact => .agg f.cells) Tryz.underlying22 Tryz.sizeOf50 Tryz.zeroValue50 rfl (by decide) (fun _ => rfl) (fun _ => rfl) (.cons (.tmp rfl) .nil) rfl) rfl rfl rfl rfl ?_
        rintro _ w30 ⟨B137, cB137, rfl, NB137, yB137, xB137⟩
        have eB137 := NB137.at_
        have zB137 := NB137.size
        replace hS := hS.up NB137.up
        have hE137 := xB137
        refine LW.r (REv.appendF (enc := Fact.cells) (bytes := 160) (i := Tryz.t50) Tryz.underlying22 (by kernel_rfl) rfl rfl rfl rfl (by decide) (fun _ => rfl) Fact.one (.tmp rfl) (.tmp rfl) (hS.own 0 rfl) (Sl.of_els hE137) (by have := hsl; simp [maxLen]; omega) (by have := hsl; simp; omega)) rfl rfl rfl rfl ?_
        intro v138 w31 Gw31
        have zw31 := Gw31.fr.size
        replace hS := hS.stp 0 rfl Gw31
        change Wx.Sep _ _ _ [_, _, _] at hS
        refine LW.A rfl (LW.nil (KW.inBlock (KW.then (CW.region (LW.M rfl ?_)))))
        refine LW.pp (PEv.inc (.tmp rfl) (by omega)) ?_
        refine LW.A rfl (LW.nil (KW.round ?_))
        first | exact ⟨(k + 1, v138), ⟨⟨by show k + 1 ≤ _; omega, by show k + 1 ≤ _; omega⟩, by first | (rw [soL_yes hy hkl.2 hso]; exact hS.take 1) | (rw [soL_no hy hkl.2 hso]; exact hS.take 1)⟩, ⟨rfl, rfl, rfl, rfl, trivial⟩, by show xs.length - (k + 1) < xs.length - k; omega⟩ | exact ⟨(k + 1, v), ⟨⟨by show k + 1 ≤ _; omega, by show k + 1 ≤ _; omega⟩, by first | (rw [soL_yes hy hkl.2 hso]; exact hS.take 1) | (rw [soL_no hy hkl.2 hso]; exact hS.take 1)⟩, ⟨rfl, rfl, rfl, rfl, trivial⟩, by show xs.length - (k + 1) < xs.length - k; omega⟩
       ·first | replace h109 := dT h109 | replace h109 := dF h109 | skip
        refine CW.S ?_
        refine LW.pp (PEv.eql (.tmp rfl) (.const _)) ?_
        refine LW.A rfl (LW.T ?_)
        refine CW.cond (.tmp rfl) (fun h122 => ?_) (fun h122 => ?_)
        ·first | replace h122 := dT h122 | replace h122 := dF h122 | skip
         refine CW.S ?_
         refine LW.pp (PEv.fieldAddr (off := 0) Tryz.underlying50 rfl rfl Tryz.sizeOf3 rfl (.tmp rfl)) ?_
         refine LW.s (SEv.store Tryz.sizeOf3 (.tmp rfl) (.const _) rfl (hS.blk 2 rfl) (Nat.le_of_ble_eq_true rfl)) rfl rfl rfl ?_
         intro w32 Nw32
         have zw32 := Nw32.size
         replace hS := hS.putB 2 rfl (show Set_ _ w32 _ (({ soB y with Kind := 10 } : Fact).cells) _ from Nw32)
         change Wx.Sep _ _ _ [_, _, _] at hS
         refine LW.S (CW.region ?_)
         refine LW.pp (PEv.indexArr (j := 3) Tryz.underlying81 Tryz.sizeOf3 (.tmp rfl) (.const _) (by decide)) ?_
         refine LW.pp (PEv.load Tryz.isAgg3 (.tmp rfl) ((hS.blk 1 rfl).celln rfl)) ?_
         refine LW.c (enter_call0 (.cons (.tmp rfl) (.cons (.const _) .nil)) (Tryz.en44)) rfl rfl rfl rfl (pickR_any _ _ _ (by decide)) ?_
         rintro _ w33 ⟨rfl, uw33⟩
         have zw33 := uw33.size
         replace hS := hS.up uw33
         refine LW.pp (PEv.quo (.tmp rfl) (.const _) (by decide)) ?_
         refine LW.pp (PEv.add_w (.const _) (.tmp rfl)) ?_
         refine LW.pp (PEv.fieldAddr (off := 14) Tryz.underlying50 rfl rfl Tryz.sizeOf3 rfl (.tmp rfl)) ?_
         refine LW.s (SEv.store Tryz.sizeOf3 (.tmp rfl) (.tmp rfl) rfl (hS.blk 2 rfl) (Nat.le_of_ble_eq_true rfl)) rfl rfl rfl ?_
         intro w34 Nw34
         have zw34 := Nw34.size
         replace hS := hS.putB 2 rfl (show Set_ _ w34 _ (({ soB y with Kind := 10, Recipe := wI (1 + wI ((pickI y.d 8).tdiv 7)) } : Fact).cells) _ from Nw34)
         change Wx.Sep _ _ _ [_, _, _] at hS
         refine LW.T (CW.region ?_)
         refine LW.pp (PEv.indexArr (j := 5) Tryz.underlying81 Tryz.sizeOf3 (.tmp rfl) (.const _) (by decide)) ?_
         refine LW.pp (PEv.load Tryz.isAgg3 (.tmp rfl) ((hS.blk 1 rfl).celln rfl)) ?_
         refine LW.c (enter_call0 (.cons (.tmp rfl) (.cons (.const _) .nil)) (Tryz.en44)) rfl rfl rfl rfl (pickR_any _ _ _ (by decide)) ?_
         rintro _ w35 ⟨rfl, uw35⟩
         have zw35 := uw35.size
         replace hS := hS.up uw35
         refine LW.pp (PEv.fieldAddr (off := 16) Tryz.underlying50 rfl rfl Tryz.sizeOf3 rfl (.tmp rfl)) ?_
         refine LW.s (SEv.store Tryz.sizeOf3 (.tmp rfl) (.tmp rfl) rfl (hS.blk 2 rfl) (Nat.le_of_ble_eq_true rfl)) rfl rfl rfl ?_
         intro w36 Nw36
         have zw36 := Nw36.size
         replace hS := hS.putB 2 rfl (show Set_ _ w36 _ (({ soB y with Kind := 10, Recipe := wI (1 + wI ((pickI y.d 8).tdiv 7)), Value := pickI y.f 40 } : Fact).cells) _ from Nw36)
         change Wx.Sep _ _ _ [_, _, _] at hS
         refine LW.nil (KW.inBlock (KW.then ?_))
         first | (have hso := soF_p (y := y) (by omega); change Wx.Sep no w0 _ [_, _, aBlk B6 (soP y).cells _] at hS; generalize soP y = ff at hS hso) | (have hso := soF_m (y := y) (by omega); change Wx.Sep no w0 _ [_, _, aBlk B6 (soM y).cells _] at hS; generalize soM y = ff at hS hso) | (have hso := soF_t (y := y) (by omega); change Wx.Sep no w0 _ [_, _, aBlk B6 (soT y).cells _] at hS; generalize soT y = ff at hS hso) | (have hso := soF_r (y := y) (by omega) (by omega) (by omega) (by omega) (by omega); change Wx.Sep no w0 _ [_, _, aBlk B6 (soR y).cells _] at hS; generalize soR y = ff at hS hso)
         have hsl := soL_len (xs.take k)
         refine CW.region (LW.M rfl ?_)
         refine LW.pp (PEv.loadA Tryz.isAgg50 Tryz.sizeOf50 rfl (.tmp rfl) ((hS.blk 2 rfl).agg)) ?_
         refine LW.r (REv.buildSlice (xs := [ff]) (enc := Fact.cells) (mk := fun f : Fact => .agg f.cells) Tryz.underlying22 Tryz.sizeOf50 Tryz.zeroValue50 rfl (by decide) (fun _ => rfl) (fun _ => rfl) (.cons (.tmp rfl) .nil) rfl) rfl rfl rfl rfl ?_
         rintro _ w37 ⟨B137, cB137, rfl, NB137, yB137, xB137⟩
         have eB137 := NB137.at_
         have zB137 := NB137.size
         replace hS := hS.up NB137.up
         have hE137 := xB137
         refine LW.r (REv.appendF (enc := Fact.cells) (bytes := 160) (i := Tryz.t50) Tryz.underlying22 (by kernel_rfl) rfl rfl rfl rfl (by decide) (fun _ => rfl) Fact.one (.tmp rfl) (.tmp rfl) (hS.own 0 rfl) (Sl.of_els hE137) (by have := hsl; simp [maxLen]; omega) (by have := hsl; simp; omega)) rfl rfl rfl rfl ?_
         intro v138 w38 Gw38
         have zw38 := Gw38.fr.size
         replace hS := hS.stp 0 rfl Gw38
         change Wx.Sep _ _ _ [_, _, _] at hS
         refine LW.A rfl (LW.nil (KW.inBlock (KW.then (CW.region (LW.M rfl ?_)))))
         refine LW.pp (PEv.inc (.tmp rfl) (by omega)) ?_
         refine LW.A rfl (LW.nil (KW.round ?_))
         first | exact ⟨(k + 1, v138), ⟨⟨by show k + 1 ≤ _; omega, by show k + 1 ≤ _; omega⟩, by first | (rw [soL_yes hy hkl.2 hso]; exact hS.take 1) | (rw [soL_no hy hkl.2 hso]; exact hS.take 1)⟩, ⟨rfl, rfl, rfl, rfl, trivial⟩, by show xs.length - (k + 1) < xs.length - k; omega⟩ | exact ⟨(k + 1, v), ⟨⟨by show k + 1 ≤ _; omega, by show k + 1 ≤ _; omega⟩, by first | (rw [soL_yes hy hkl.2 hso]; exact hS.take 1) | (rw [soL_no hy hkl.2 hso]; exact hS.take 1)⟩, ⟨rfl, rfl, rfl, rfl, trivial⟩, by show xs.length - (k + 1) < xs.length - k; omega⟩
        ·first | replace h122 := dT h122 | replace h122 := dF h122 | skip
         refine CW.seq (CW.S ?_)
         refine LW.pp (PEv.indexArr (j := 5) Tryz.underlying81 Tryz.sizeOf3 (.tmp rfl) (.const _) (by decide)) ?_
         refine LW.pp (PEv.load Tryz.isAgg3 (.tmp rfl) ((hS.blk 1 rfl).celln rfl)) ?_
         refine LW.c (enter_call0 (.cons (.tmp rfl) (.cons (.const _) .nil)) (Tryz.en44)) rfl rfl rfl rfl (pickR_any _ _ _ (by decide)) ?_
         rintro _ w39 ⟨rfl, uw39⟩
         have zw39 := uw39.size
         replace hS := hS.up uw39
         refine LW.pp (PEv.gtr (.tmp rfl) (.const _)) ?_
         refine LW.T ?_
         refine CW.cond (.tmp rfl) (fun h44 => ?_) (fun h44 => ?_)
         ·first | replace h44 := dT h44 | replace h44 := dF h44 | skip
          have hso := soF_n (y := y) (by omega) (by omega) (by omega) (by omega) h44
          refine CW.exit (KW.then_exit ?_)
          refine KW.block_miss (by decide) ?_
          refine KW.then_exit (KW.block_hit (KW.then (CW.region (LW.M rfl ?_))))
          refine LW.pp (PEv.inc (.tmp rfl) (by omega)) ?_
          refine LW.A rfl (LW.nil (KW.round ?_))
          first | exact ⟨(k + 1, v138), ⟨⟨by show k + 1 ≤ _; omega, by show k + 1 ≤ _; omega⟩, by first | (rw [soL_yes hy hkl.2 hso]; exact hS.take 1) | (rw [soL_no hy hkl.2 hso]; exact hS.take 1)⟩, ⟨rfl, rfl, rfl, rfl, trivial⟩, by show xs.length - (k + 1) < xs.length - k; omega⟩ | exact ⟨(k + 1, v), ⟨⟨by show k + 1 ≤ _; omega, by show k + 1 ≤ _; omega⟩, by first | (rw [soL_yes hy hkl.2 hso]; exact hS.take 1) | (rw [soL_no hy hkl.2 hso]; exact hS.take 1)⟩, ⟨rfl, rfl, rfl, rfl, trivial⟩, by show xs.length - (k + 1) < xs.length - k; omega⟩
         ·first | replace h44 := dT h44 | replace h44 := dF h44 | skip
          refine CW.skip (KW.then (CW.S ?_))
          refine LW.pp (PEv.fieldAddr (off := 0) Tryz.underlying50 rfl rfl Tryz.sizeOf3 rfl (.tmp rfl)) ?_
          refine LW.s (SEv.store Tryz.sizeOf3 (.tmp rfl) (.const _) rfl (hS.blk 2 rfl) (Nat.le_of_ble_eq_true rfl)) rfl rfl rfl ?_
          intro w40 Nw40
          have zw40 := Nw40.size
          replace hS := hS.putB 2 rfl (show Set_ _ w40 _ (({ soB y with Kind := 9 } : Fact).cells) _ from Nw40)
          change Wx.Sep _ _ _ [_, _, _] at hS
          refine LW.S (CW.region ?_)
          refine LW.pp (PEv.indexArr (j := 3) Tryz.underlying81 Tryz.sizeOf3 (.tmp rfl) (.const _) (by decide)) ?_
          refine LW.pp (PEv.load Tryz.isAgg3 (.tmp rfl) ((hS.blk 1 rfl).celln rfl)) ?_
          refine LW.c (enter_call0 (.cons (.tmp rfl) (.cons (.const _) .nil)) (Tryz.en44)) rfl rfl rfl rfl (pickR_any _ _ _ (by decide)) ?_
          rintro _ w41 ⟨rfl, uw41⟩
          have zw41 := uw41.size
          replace hS := hS.up uw41
          refine LW.pp (PEv.add_w (.const _) (.tmp rfl)) ?_
          refine LW.pp (PEv.fieldAddr (off := 1) Tryz.underlying50 rfl rfl Tryz.sizeOf3 rfl (.tmp rfl)) ?_
          refine LW.s (SEv.store Tryz.sizeOf3 (.tmp rfl) (.tmp rfl) rfl (hS.blk 2 rfl) (Nat.le_of_ble_eq_true rfl)) rfl rfl rfl ?_
          intro w42 Nw42
          have zw42 := Nw42.size
          replace hS := hS.putB 2 rfl (show Set_ _ w42 _ (({ soB y with Kind := 9, ID := wI (1 + pickI y.d 9) } : Fact).cells) _ from Nw42)
          change Wx.Sep _ _ _ [_, _, _] at hS
          refine LW.S (CW.region ?_)
          refine LW.pp (PEv.indexArr (j := 4) Tryz.underlying81 Tryz.sizeOf3 (.tmp rfl) (.const _) (by decide)) ?_
          refine LW.pp (PEv.load Tryz.isAgg3 (.tmp rfl) ((hS.blk 1 rfl).celln rfl)) ?_
          refine LW.c (enter_call0 (.cons (.tmp rfl) (.cons (.const _) .nil)) (Tryz.en44)) rfl rfl rfl rfl (pickR_any _ _ _ (by decide)) ?_
          rintro _ w43 ⟨rfl, uw43⟩
          have zw43 := uw43.size
          replace hS := hS.up uw43
          refine LW.pp (PEv.quo (.tmp rfl) (.const _) (by decide)) ?_
          refine LW.pp (PEv.fieldAddr (off := 11) Tryz.underlying50 rfl rfl Tryz.sizeOf3 rfl (.tmp rfl)) ?_
          refine LW.s (SEv.store Tryz.sizeOf3 (.tmp rfl) (.tmp rfl) rfl (hS.blk 2 rfl) (Nat.le_of_ble_eq_true rfl)) rfl rfl rfl ?_
          intro w44 Nw44
          have zw44 := Nw44.size
          replace hS := hS.putB 2 rfl (show Set_ _ w44 _ (({ soB y with Kind := 9, ID := wI (1 + pickI y.d 9), Tool := wI ((pickI y.e 8).tdiv 7) } : Fact).cells) _ from Nw44)
          change Wx.Sep _ _ _ [_, _, _] at hS
          refine LW.T (CW.region ?_)
          refine LW.pp (PEv.indexArr (j := 4) Tryz.underlying81 Tryz.sizeOf3 (.tmp rfl) (.const _) (by decide)) ?_
          refine LW.pp (PEv.load Tryz.isAgg3 (.tmp rfl) ((hS.blk 1 rfl).celln rfl)) ?_
          refine LW.pp (PEv.quo (.tmp rfl) (.const _) (by decide)) ?_
          refine LW.c (enter_call0 (.cons (.tmp rfl) (.cons (.const _) .nil)) (Tryz.en44)) rfl rfl rfl rfl (pickR_any _ _ _ (by decide)) ?_
          rintro _ w45 ⟨rfl, uw45⟩
          have zw45 := uw45.size
          replace hS := hS.up uw45
          refine LW.pp (PEv.quo (.tmp rfl) (.const _) (by decide)) ?_
          refine LW.pp (PEv.fieldAddr (off := 12) Tryz.underlying50 rfl rfl Tryz.sizeOf3 rfl (.tmp rfl)) ?_
          refine LW.s (SEv.store Tryz.sizeOf3 (.tmp rfl) (.tmp rfl) rfl (hS.blk 2 rfl) (Nat.le_of_ble_eq_true rfl)) rfl rfl rfl ?_
          intro w46 Nw46
          have zw46 := Nw46.size
          replace hS := hS.putB 2 rfl (show Set_ _ w46 _ (({ soB y with Kind := 9, ID := wI (1 + pickI y.d 9), Tool := wI ((pickI y.e 8).tdiv 7), Chamber := wI ((pickI (wI (y.e.tdiv 8)) 6).tdiv 5) } : Fact).cells) _ from Nw46)
          change Wx.Sep _ _ _ [_, _, _] at hS
          refine LW.nil (KW.inBlock (KW.then ?_))
          first | (have hso := soF_p (y := y) (by omega); change Wx.Sep no w0 _ [_, _, aBlk B6 (soP y).cells _] at hS; generalize soP y = ff at hS hso) | (have hso := soF_m (y := y) (by omega); change Wx.Sep no w0 _ [_, _, aBlk B6 (soM y).cells _] at hS; generalize soM y = ff at hS hso) | (have hso := soF_t (y := y) (by omega); change Wx.Sep no w0 _ [_, _, aBlk B6 (soT y).cells _] at hS; generalize soT y = ff at hS hso) | (have hso := soF_r (y := y) (by omega) (by omega) (by omega) (by omega) (by omega); change Wx.Sep no w0 _ [_, _, aBlk B6 (soR y).cells _] at hS; generalize soR y = ff at hS hso)
          have hsl := soL_len (xs.take k)
          refine CW.region (LW.M rfl ?_)
          refine LW.pp (PEv.loadA Tryz.isAgg50 Tryz.sizeOf50 rfl (.tmp rfl) ((hS.blk 2 rfl).agg)) ?_
          refine LW.r (REv.buildSlice (xs := [ff]) (enc := Fact.cells) (mk := fun f : Fact => .agg f.cells) Tryz.underlying22 Tryz.sizeOf50 Tryz.zeroValue50 rfl (by decide) (fun _ => rfl) (fun _ => rfl) (.cons (.tmp rfl) .nil) rfl) rfl rfl rfl rfl ?_
          rintro _ w47 ⟨B137, cB137, rfl, NB137, yB137, xB137⟩
          have eB137 := NB137.at_
          have zB137 := NB137.size
          replace hS := hS.up NB137.up
          have hE137 := xB137
          refine LW.r (REv.appendF (enc := Fact.cells) (bytes := 160) (i := Tryz.t50) Tryz.underlying22 (by kernel_rfl) rfl rfl rfl rfl (by decide) (fun _ => rfl) Fact.one (.tmp rfl) (.tmp rfl) (hS.own 0 rfl) (Sl.of_els hE137) (by have := hsl; simp [maxLen]; omega) (by have := hsl; simp; omega)) rfl rfl rfl rfl ?_
          intro v138 w48 Gw48
          have zw48 := Gw48.fr.size
          replace hS := hS.stp 0 rfl Gw48
          change Wx.Sep _ _ _ [_, _, _] at hS
          refine LW.A rfl (LW.nil (KW.inBlock (KW.then (CW.region (LW.M rfl ?_)))))
          refine LW.pp (PEv.inc (.tmp rfl) (by omega)) ?_
          refine LW.A rfl (LW.nil (KW.round ?_))
          first | exact ⟨(k + 1, v138), ⟨⟨by show k + 1 ≤ _; omega, by show k + 1 ≤ _; omega⟩, by first | (rw [soL_yes hy hkl.2 hso]; exact hS.take 1) | (rw [soL_no hy hkl.2 hso]; exact hS.take 1)⟩, ⟨rfl, rfl, rfl, rfl, trivial⟩, by show xs.length - (k + 1) < xs.length - k; omega⟩ | exact ⟨(k + 1, v), ⟨⟨by show k + 1 ≤ _; omega, by show k + 1 ≤ _; omega⟩, by first | (rw [soL_yes hy hkl.2 hso]; exact hS.take 1) | (rw [soL_no hy hkl.2 hso]; exact hS.take 1)⟩, ⟨rfl, rfl, rfl, rfl, trivial⟩, by show xs.length - (k + 1) < xs.length - k; omega⟩
     ·first | replace h62 := dT h62 | replace h62 := dF h62 | skip
      refine CW.region ?_
      refine LW.pp (PEv.eql (.tmp rfl) (.const _)) ?_
      refine LW.A rfl (LW.T ?_)
      refine CW.cond (.tmp rfl) (fun h62 => ?_) (fun h62 => ?_)
      ·first | replace h62 := dT h62 | replace h62 := dF h62 | skip
       refine CW.S ?_
       refine LW.pp (PEv.fieldAddr (off := 0) Tryz.underlying50 rfl rfl Tryz.sizeOf3 rfl (.tmp rfl)) ?_
       refine LW.s (SEv.store Tryz.sizeOf3 (.tmp rfl) (.const _) rfl (hS.blk 2 rfl) (Nat.le_of_ble_eq_true rfl)) rfl rfl rfl ?_
       intro w49 Nw49
       have zw49 := Nw49.size
       replace hS := hS.putB 2 rfl (show Set_ _ w49 _ (({ soB y with Kind := 1 } : Fact).cells) _ from Nw49)
       change Wx.Sep _ _ _ [_, _, _] at hS
       refine LW.S (CW.region ?_)
       refine LW.pp (PEv.indexArr (j := 3) Tryz.underlying81 Tryz.sizeOf3 (.tmp rfl) (.const _) (by decide)) ?_
       refine LW.pp (PEv.load Tryz.isAgg3 (.tmp rfl) ((hS.blk 1 rfl).celln rfl)) ?_
       refine LW.c (enter_call0 (.cons (.tmp rfl) (.cons (.const _) .nil)) (Tryz.en44)) rfl rfl rfl rfl (pickR_any _ _ _ (by decide)) ?_
       rintro _ w50 ⟨rfl, uw50⟩
       have zw50 := uw50.size
       replace hS := hS.up uw50
       refine LW.pp (PEv.add_w (.const _) (.tmp rfl)) ?_
       refine LW.pp (PEv.fieldAddr (off := 1) Tryz.underlying50 rfl rfl Tryz.sizeOf3 rfl (.tmp rfl)) ?_
       refine LW.s (SEv.store Tryz.sizeOf3 (.tmp rfl) (.tmp rfl) rfl (hS.blk 2 rfl) (Nat.le_of_ble_eq_true rfl)) rfl rfl rfl ?_
       intro w51 Nw51
       have zw51 := Nw51.size
       replace hS := hS.putB 2 rfl (show Set_ _ w51 _ (({ soB y with Kind := 1, ID := wI (1 + pickI y.d 9) } : Fact).cells) _ from Nw51)
       change Wx.Sep _ _ _ [_, _, _] at hS
       refine LW.S (CW.region ?_)
       refine LW.pp (PEv.indexArr (j := 4) Tryz.underlying81 Tryz.sizeOf3 (.tmp rfl) (.const _) (by decide)) ?_
       refine LW.pp (PEv.load Tryz.isAgg3 (.tmp rfl) ((hS.blk 1 rfl).celln rfl)) ?_
       refine LW.c (enter_call0 (.cons (.tmp rfl) (.cons (.const _) .nil)) (Tryz.en44)) rfl rfl rfl rfl (pickR_any _ _ _ (by decide)) ?_
       rintro _ w52 ⟨rfl, uw52⟩
       have zw52 := uw52.size
       replace hS := hS.up uw52
       refine LW.pp (PEv.add_w (.const _) (.tmp rfl)) ?_
       refine LW.pp (PEv.fieldAddr (off := 7) Tryz.underlying50 rfl rfl Tryz.sizeOf3 rfl (.tmp rfl)) ?_
       refine LW.s (SEv.store Tryz.sizeOf3 (.tmp rfl) (.tmp rfl) rfl (hS.blk 2 rfl) (Nat.le_of_ble_eq_true rfl)) rfl rfl rfl ?_
       intro w53 Nw53
       have zw53 := Nw53.size
       replace hS := hS.putB 2 rfl (show Set_ _ w53 _ (({ soB y with Kind := 1, ID := wI (1 + pickI y.d 9), Wafer := wI (1 + pickI y.e 4) } : Fact).cells) _ from Nw53)
       change Wx.Sep _ _ _ [_, _, _] at hS
       refine LW.S (CW.region ?_)
       refine LW.pp (PEv.indexArr (j := 4) Tryz.underlying81 Tryz.sizeOf3 (.tmp rfl) (.const _) (by decide)) ?_
       refine LW.pp (PEv.load Tryz.isAgg3 (.tmp rfl) ((hS.blk 1 rfl).celln rfl)) ?_
       refine LW.pp (PEv.quo (.tmp rfl) (.const _) (by decide)) ?_
       refine LW.c (enter_call0 (.cons (.tmp rfl) (.cons (.const _) .nil)) (Tryz.en44)) rfl rfl rfl rfl (pickR_any _ _ _ (by decide)) ?_
       rintro _ w54 ⟨rfl, uw54⟩
       have zw54 := uw54.size
       replace hS := hS.up uw54
       refine LW.pp (PEv.quo (.tmp rfl) (.const _) (by decide)) ?_
       refine LW.pp (PEv.fieldAddr (off := 11) Tryz.underlying50 rfl rfl Tryz.sizeOf3 rfl (.tmp rfl)) ?_
       refine LW.s (SEv.store Tryz.sizeOf3 (.tmp rfl) (.tmp rfl) rfl (hS.blk 2 rfl) (Nat.le_of_ble_eq_true rfl)) rfl rfl rfl ?_
       intro w55 Nw55
       have zw55 := Nw55.size
       replace hS := hS.putB 2 rfl (show Set_ _ w55 _ (({ soB y with Kind := 1, ID := wI (1 + pickI y.d 9), Wafer := wI (1 + pickI y.e 4), Tool := wI ((pickI (wI (y.e.tdiv 4)) 8).tdiv 7) } : Fact).cells) _ from Nw55)
       change Wx.Sep _ _ _ [_, _, _] at hS
       refine LW.S (CW.region ?_)
       refine LW.pp (PEv.indexArr (j := 4) Tryz.underlying81 Tryz.sizeOf3 (.tmp rfl) (.const _) (by decide)) ?_
       refine LW.pp (PEv.load Tryz.isAgg3 (.tmp rfl) ((hS.blk 1 rfl).celln rfl)) ?_
       refine LW.pp (PEv.quo (.tmp rfl) (.const _) (by decide)) ?_
       refine LW.c (enter_call0 (.cons (.tmp rfl) (.cons (.const _) .nil)) (Tryz.en44)) rfl rfl rfl rfl (pickR_any _ _ _ (by decide)) ?_
       rintro _ w56 ⟨rfl, uw56⟩
       have zw56 := uw56.size
       replace hS := hS.up uw56
       refine LW.pp (PEv.quo (.tmp rfl) (.const _) (by decide)) ?_
       refine LW.pp (PEv.fieldAddr (off := 12) Tryz.underlying50 rfl rfl Tryz.sizeOf3 rfl (.tmp rfl)) ?_
       refine LW.s (SEv.store Tryz.sizeOf3 (.tmp rfl) (.tmp rfl) rfl (hS.blk 2 rfl) (Nat.le_of_ble_eq_true rfl)) rfl rfl rfl ?_
       intro w57 Nw57
       have zw57 := Nw57.size
       replace hS := hS.putB 2 rfl (show Set_ _ w57 _ (({ soB y with Kind := 1, ID := wI (1 + pickI y.d 9), Wafer := wI (1 + pickI y.e 4), Tool := wI ((pickI (wI (y.e.tdiv 4)) 8).tdiv 7), Chamber := wI ((pickI (wI (y.e.tdiv 32)) 6).tdiv 5) } : Fact).cells) _ from Nw57)
       change Wx.Sep _ _ _ [_, _, _] at hS
       refine LW.S (CW.region ?_)
       refine LW.pp (PEv.indexArr (j := 5) Tryz.underlying81 Tryz.sizeOf3 (.tmp rfl) (.const _) (by decide)) ?_
       refine LW.pp (PEv.load Tryz.isAgg3 (.tmp rfl) ((hS.blk 1 rfl).celln rfl)) ?_
       refine LW.c (enter_call0 (.cons (.tmp rfl) (.cons (.const _) .nil)) (Tryz.en44)) rfl rfl rfl rfl (pickR_any _ _ _ (by decide)) ?_
       rintro _ w58 ⟨rfl, uw58⟩
       have zw58 := uw58.size
       replace hS := hS.up uw58
       refine LW.pp (PEv.quo (.tmp rfl) (.const _) (by decide)) ?_
       refine LW.pp (PEv.add_w (.const _) (.tmp rfl)) ?_
       refine LW.pp (PEv.fieldAddr (off := 14) Tryz.underlying50 rfl rfl Tryz.sizeOf3 rfl (.tmp rfl)) ?_
       refine LW.s (SEv.store Tryz.sizeOf3 (.tmp rfl) (.tmp rfl) rfl (hS.blk 2 rfl) (Nat.le_of_ble_eq_true rfl)) rfl rfl rfl ?_
       intro w59 Nw59
       have zw59 := Nw59.size
       replace hS := hS.putB 2 rfl (show Set_ _ w59 _ (({ soB y with Kind := 1, ID := wI (1 + pickI y.d 9), Wafer := wI (1 + pickI y.e 4), Tool := wI ((pickI (wI (y.e.tdiv 4)) 8).tdiv 7), Chamber := wI ((pickI (wI (y.e.tdiv 32)) 6).tdiv 5), Recipe := wI (1 + wI ((pickI y.f 8).tdiv 7)) } : Fact).cells) _ from Nw59)
       change Wx.Sep _ _ _ [_, _, _] at hS
       refine LW.S (CW.region ?_)
       refine LW.pp (PEv.fieldAddr (off := 15) Tryz.underlying50 rfl rfl Tryz.sizeOf3 rfl (.tmp rfl)) ?_
       refine LW.s (SEv.store Tryz.sizeOf3 (.tmp rfl) (.const _) rfl (hS.blk 2 rfl) (Nat.le_of_ble_eq_true rfl)) rfl rfl rfl ?_
       intro w60 Nw60
       have zw60 := Nw60.size
       replace hS := hS.putB 2 rfl (show Set_ _ w60 _ (({ soB y with Kind := 1, ID := wI (1 + pickI y.d 9), Wafer := wI (1 + pickI y.e 4), Tool := wI ((pickI (wI (y.e.tdiv 4)) 8).tdiv 7), Chamber := wI ((pickI (wI (y.e.tdiv 32)) 6).tdiv 5), Recipe := wI (1 + wI ((pickI y.f 8).tdiv 7)), Revision := 1 } : Fact).cells) _ from Nw60)
       change Wx.Sep _ _ _ [_, _, _] at hS
       refine LW.S ?_
       refine CW.draws_then 8 (by kernel_rfl) (by kernel_rfl) (by kernel_rfl) (by kernel_rfl) (by kernel_rfl) rfl rfl ?_
       refine HW.pp (PEv.fieldAddr (off := 5) Tryz.underlying50 rfl rfl Tryz.sizeOf3 rfl (.tmp rfl)) ?_
       refine HW.pp (PEv.load Tryz.isAgg3 (.tmp rfl) ((hS.blk 2 rfl).celln rfl)) ?_
       refine HW.pp (PEv.indexArr (j := 5) Tryz.underlying81 Tryz.sizeOf3 (.tmp rfl) (.const _) (by decide)) ?_
       refine HW.pp (PEv.load Tryz.isAgg3 (.tmp rfl) ((hS.blk 1 rfl).celln rfl)) ?_
       refine HW.pp (PEv.quo (.tmp rfl) (.const _) (by decide)) ?_
       refine HW.c (fun a w _ ha => enter_call0 (.cons (.tmp rfl) (.cons (.const _) .nil)) (Tryz.en44) a ha) rfl rfl (fun w hu => pickR_any _ _ w (by decide)) ?_
       refine HW.pp (PEv.add_w (.tmp rfl) (.tmp rfl)) ?_
       refine HW.pp (PEv.fieldAddr (off := 6) Tryz.underlying50 rfl rfl Tryz.sizeOf3 rfl (.tmp rfl)) ?_
       refine HW.nil ?_
       intro w61 uw61
       have zw61 := uw61.size
       replace hS := hS.up uw61
       refine LW.s (SEv.store Tryz.sizeOf3 (.tmp rfl) (.tmp rfl) rfl (hS.blk 2 rfl) (Nat.le_of_ble_eq_true rfl)) rfl rfl rfl ?_
       intro w62 Nw62
       have zw62 := Nw62.size
       replace hS := hS.putB 2 rfl (show Set_ _ w62 _ (({ soB y with Kind := 1, ID := wI (1 + pickI y.d 9), Wafer := wI (1 + pickI y.e 4), Tool := wI ((pickI (wI (y.e.tdiv 4)) 8).tdiv 7), Chamber := wI ((pickI (wI (y.e.tdiv 32)) 6).tdiv 5), Recipe := wI (1 + wI ((pickI y.f 8).tdiv 7)), Revision := 1, Until := wI ((soB y).Time + pickI (wI (y.f.tdiv 8)) 9) } : Fact).cells) _ from Nw62)
       change Wx.Sep _ _ _ [_, _, _] at hS
       refine LW.T (CW.region ?_)
       refine LW.pp (PEv.indexArr (j := 5) Tryz.underlying81 Tryz.sizeOf3 (.tmp rfl) (.const _) (by decide)) ?_
       refine LW.pp (PEv.load Tryz.isAgg3 (.tmp rfl) ((hS.blk 1 rfl).celln rfl)) ?_
       refine LW.pp (PEv.quo (.tmp rfl) (.const _) (by decide)) ?_
       refine LW.c (enter_call0 (.cons (.tmp rfl) (.cons (.const _) .nil)) (Tryz.en44)) rfl rfl rfl rfl (pickR_any _ _ _ (by decide)) ?_
       rintro _ w63 ⟨rfl, uw63⟩
       have zw63 := uw63.size
       replace hS := hS.up uw63
       refine LW.pp (PEv.mul_w (.const _) (.tmp rfl)) ?_
       refine LW.pp (PEv.fieldAddr (off := 16) Tryz.underlying50 rfl rfl Tryz.sizeOf3 rfl (.tmp rfl)) ?_
       refine LW.s (SEv.store Tryz.sizeOf3 (.tmp rfl) (.tmp rfl) rfl (hS.blk 2 rfl) (Nat.le_of_ble_eq_true rfl)) rfl rfl rfl ?_
       intro w64 Nw64
       have zw64 := Nw64.size
       replace hS := hS.putB 2 rfl (show Set_ _ w64 _ (({ soB y with Kind := 1, ID := wI (1 + pickI y.d 9), Wafer := wI (1 + pickI y.e 4), Tool := wI ((pickI (wI (y.e.tdiv 4)) 8).tdiv 7), Chamber := wI ((pickI (wI (y.e.tdiv 32)) 6).tdiv 5), Recipe := wI (1 + wI ((pickI y.f 8).tdiv 7)), Revision := 1, Until := wI ((soB y).Time + pickI (wI (y.f.tdiv 8)) 9), Value := wI (1000 * pickI (wI (y.f.tdiv 72)) 40) } : Fact).cells) _ from Nw64)
       change Wx.Sep _ _ _ [_, _, _] at hS
       refine LW.nil (KW.inBlock (KW.then ?_))
       first | (have hso := soF_p (y := y) (by omega); change Wx.Sep no w0 _ [_, _, aBlk B6 (soP y).cells _] at hS; generalize soP y = ff at hS hso) | (have hso := soF_m (y := y) (by omega); change Wx.Sep no w0 _ [_, _, aBlk B6 (soM y).cells _] at hS; generalize soM y = ff at hS hso) | (have hso := soF_t (y := y) (by omega); change Wx.Sep no w0 _ [_, _, aBlk B6 (soT y).cells _] at hS; generalize soT y = ff at hS hso) | (have hso := soF_r (y := y) (by omega) (by omega) (by omega) (by omega) (by omega); change Wx.Sep no w0 _ [_, _, aBlk B6 (soR y).cells _] at hS; generalize soR y = ff at hS hso)
       have hsl := soL_len (xs.take k)
       refine CW.region (LW.M rfl ?_)
       refine LW.pp (PEv.loadA Tryz.isAgg50 Tryz.sizeOf50 rfl (.tmp rfl) ((hS.blk 2 rfl).agg)) ?_
       refine LW.r (REv.buildSlice (xs := [ff]) (enc := Fact.cells) (mk := fun f : Fact => .agg f.cells) Tryz.underlying22 Tryz.sizeOf50 Tryz.zeroValue50 rfl (by decide) (fun _ => rfl) (fun _ => rfl) (.cons (.tmp rfl) .nil) rfl) rfl rfl rfl rfl ?_
       rintro _ w65 ⟨B137, cB137, rfl, NB137, yB137, xB137⟩
       have eB137 := NB137.at_
       have zB137 := NB137.size
       replace hS := hS.up NB137.up
       have hE137 := xB137
       refine LW.r (REv.appendF (enc := Fact.cells) (bytes := 160) (i := Tryz.t50) Tryz.underlying22 (by kernel_rfl) rfl rfl rfl rfl (by decide) (fun _ => rfl) Fact.one (.tmp rfl) (.tmp rfl) (hS.own 0 rfl) (Sl.of_els hE137) (by have := hsl; simp [maxLen]; omega) (by have := hsl; simp; omega)) rfl rfl rfl rfl ?_
       intro v138 w66 Gw66
       have zw66 := Gw66.fr.size
       replace hS := hS.stp 0 rfl Gw66
       change Wx.Sep _ _ _ [_, _, _] at hS
       refine LW.A rfl (LW.nil (KW.inBlock (KW.then (CW.region (LW.M rfl ?_)))))
       refine LW.pp (PEv.inc (.tmp rfl) (by omega)) ?_
       refine LW.A rfl (LW.nil (KW.round ?_))
       first | exact ⟨(k + 1, v138), ⟨⟨by show k + 1 ≤ _; omega, by show k + 1 ≤ _; omega⟩, by first | (rw [soL_yes hy hkl.2 hso]; exact hS.take 1) | (rw [soL_no hy hkl.2 hso]; exact hS.take 1)⟩, ⟨rfl, rfl, rfl, rfl, trivial⟩, by show xs.length - (k + 1) < xs.length - k; omega⟩ | exact ⟨(k + 1, v), ⟨⟨by show k + 1 ≤ _; omega, by show k + 1 ≤ _; omega⟩, by first | (rw [soL_yes hy hkl.2 hso]; exact hS.take 1) | (rw [soL_no hy hkl.2 hso]; exact hS.take 1)⟩, ⟨rfl, rfl, rfl, rfl, trivial⟩, by show xs.length - (k + 1) < xs.length - k; omega⟩
      ·first | replace h62 := dT h62 | replace h62 := dF h62 | skip
       refine CW.S ?_
       refine LW.pp (PEv.eql (.tmp rfl) (.const _)) ?_
       refine LW.A rfl (LW.T ?_)
       refine CW.cond (.tmp rfl) (fun h109 => ?_) (fun h109 => ?_)
       ·first | replace h109 := dT h109 | replace h109 := dF h109 | skip
        refine CW.S ?_
        refine LW.pp (PEv.fieldAddr (off := 0) Tryz.underlying50 rfl rfl Tryz.sizeOf3 rfl (.tmp rfl)) ?_
        refine LW.s (SEv.store Tryz.sizeOf3 (.tmp rfl) (.const _) rfl (hS.blk 2 rfl) (Nat.le_of_ble_eq_true rfl)) rfl rfl rfl ?_
        intro w67 Nw67
        have zw67 := Nw67.size
        replace hS := hS.putB 2 rfl (show Set_ _ w67 _ (({ soB y with Kind := 2 } : Fact).cells) _ from Nw67)
        change Wx.Sep _ _ _ [_, _, _] at hS
        refine LW.S (CW.region ?_)
        refine LW.pp (PEv.indexArr (j := 3) Tryz.underlying81 Tryz.sizeOf3 (.tmp rfl) (.const _) (by decide)) ?_
        refine LW.pp (PEv.load Tryz.isAgg3 (.tmp rfl) ((hS.blk 1 rfl).celln rfl)) ?_
        refine LW.c (enter_call0 (.cons (.tmp rfl) (.cons (.const _) .nil)) (Tryz.en44)) rfl rfl rfl rfl (pickR_any _ _ _ (by decide)) ?_
        rintro _ w68 ⟨rfl, uw68⟩
        have zw68 := uw68.size
        replace hS := hS.up uw68
        refine LW.pp (PEv.add_w (.const _) (.tmp rfl)) ?_
        refine LW.pp (PEv.fieldAddr (off := 1) Tryz.underlying50 rfl rfl Tryz.sizeOf3 rfl (.tmp rfl)) ?_
        refine LW.s (SEv.store Tryz.sizeOf3 (.tmp rfl) (.tmp rfl) rfl (hS.blk 2 rfl) (Nat.le_of_ble_eq_true rfl)) rfl rfl rfl ?_
        intro w69 Nw69
        have zw69 := Nw69.size
        replace hS := hS.putB 2 rfl (show Set_ _ w69 _ (({ soB y with Kind := 2, ID := wI (1 + pickI y.d 9) } : Fact).cells) _ from Nw69)
        change Wx.Sep _ _ _ [_, _, _] at hS
        refine LW.T (CW.region ?_)
        refine LW.pp (PEv.indexArr (j := 5) Tryz.underlying81 Tryz.sizeOf3 (.tmp rfl) (.const _) (by decide)) ?_
        refine LW.pp (PEv.load Tryz.isAgg3 (.tmp rfl) ((hS.blk 1 rfl).celln rfl)) ?_
        refine LW.c (enter_call0 (.cons (.tmp rfl) (.cons (.const _) .nil)) (Tryz.en44)) rfl rfl rfl rfl (pickR_any _ _ _ (by decide)) ?_
        rintro _ w70 ⟨rfl, uw70⟩
        have zw70 := uw70.size
        replace hS := hS.up uw70
        refine LW.pp (PEv.sub_w (.tmp rfl) (.const _)) ?_
        refine LW.pp (PEv.fieldAddr (off := 16) Tryz.underlying50 rfl rfl Tryz.sizeOf3 rfl (.tmp rfl)) ?_
        refine LW.s (SEv.store Tryz.sizeOf3 (.tmp rfl) (.tmp rfl) rfl (hS.blk 2 rfl) (Nat.le_of_ble_eq_true rfl)) rfl rfl rfl ?_
        intro w71 Nw71
        have zw71 := Nw71.size
        replace hS := hS.putB 2 rfl (show Set_ _ w71 _ (({ soB y with Kind := 2, ID := wI (1 + pickI y.d 9), Value := wI (pickI y.f 60 - 10) } : Fact).cells) _ from Nw71)
        change Wx.Sep _ _ _ [_, _, _] at hS
        refine LW.nil (KW.inBlock (KW.then ?_))
        first | (have hso := soF_p (y := y) (by omega); change Wx.Sep no w0 _ [_, _, aBlk B6 (soP y).cells _] at hS; generalize soP y = ff at hS hso) | (have hso := soF_m (y := y) (by omega); change Wx.Sep no w0 _ [_, _, aBlk B6 (soM y).cells _] at hS; generalize soM y = ff at hS hso) | (have hso := soF_t (y := y) (by omega); change Wx.Sep no w0 _ [_, _, aBlk B6 (soT y).cells _] at hS; generalize soT y = ff at hS hso) | (have hso := soF_r (y := y) (by omega) (by omega) (by omega) (by omega) (by omega); change Wx.Sep no w0 _ [_, _, aBlk B6 (soR y).cells _] at hS; generalize soR y = ff at hS hso)
        have hsl := soL_len (xs.take k)
        refine CW.region (LW.M rfl ?_)
        refine LW.pp (PEv.loadA Tryz.isAgg50 Tryz.sizeOf50 rfl (.tmp rfl) ((hS.blk 2 rfl).agg)) ?_
        refine LW.r (REv.buildSlice (xs := [ff]) (enc := Fact.cells) (mk := fun f : Fact => .agg f.cells) Tryz.underlying22 Tryz.sizeOf50 Tryz.zeroValue50 rfl (by decide) (fun _ => rfl) (fun _ => rfl) (.cons (.tmp rfl) .nil) rfl) rfl rfl rfl rfl ?_
        rintro _ w72 ⟨B137, cB137, rfl, NB137, yB137, xB137⟩
        have eB137 := NB137.at_
        have zB137 := NB137.size
        replace hS := hS.up NB137.up
        have hE137 := xB137
        refine LW.r (REv.appendF (enc := Fact.cells) (bytes := 160) (i := Tryz.t50) Tryz.underlying22 (by kernel_rfl) rfl rfl rfl rfl (by decide) (fun _ => rfl) Fact.one (.tmp rfl) (.tmp rfl) (hS.own 0 rfl) (Sl.of_els hE137) (by have := hsl; simp [maxLen]; omega) (by have := hsl; simp; omega)) rfl rfl rfl rfl ?_
        intro v138 w73 Gw73
        have zw73 := Gw73.fr.size
        replace hS := hS.stp 0 rfl Gw73
        change Wx.Sep _ _ _ [_, _, _] at hS
        refine LW.A rfl (LW.nil (KW.inBlock (KW.then (CW.region (LW.M rfl ?_)))))
        refine LW.pp (PEv.inc (.tmp rfl) (by omega)) ?_
        refine LW.A rfl (LW.nil (KW.round ?_))
        first | exact ⟨(k + 1, v138), ⟨⟨by show k + 1 ≤ _; omega, by show k + 1 ≤ _; omega⟩, by first | (rw [soL_yes hy hkl.2 hso]; exact hS.take 1) | (rw [soL_no hy hkl.2 hso]; exact hS.take 1)⟩, ⟨rfl, rfl, rfl, rfl, trivial⟩, by show xs.length - (k + 1) < xs.length - k; omega⟩ | exact ⟨(k + 1, v), ⟨⟨by show k + 1 ≤ _; omega, by show k + 1 ≤ _; omega⟩, by first | (rw [soL_yes hy hkl.2 hso]; exact hS.take 1) | (rw [soL_no hy hkl.2 hso]; exact hS.take 1)⟩, ⟨rfl, rfl, rfl, rfl, trivial⟩, by show xs.length - (k + 1) < xs.length - k; omega⟩
       ·first | replace h109 := dT h109 | replace h109 := dF h109 | skip
        refine CW.S ?_
        refine LW.pp (PEv.eql (.tmp rfl) (.const _)) ?_
        refine LW.A rfl (LW.T ?_)
        refine CW.cond (.tmp rfl) (fun h122 => ?_) (fun h122 => ?_)
        ·first | replace h122 := dT h122 | replace h122 := dF h122 | skip
         refine CW.S ?_
         refine LW.pp (PEv.fieldAddr (off := 0) Tryz.underlying50 rfl rfl Tryz.sizeOf3 rfl (.tmp rfl)) ?_
         refine LW.s (SEv.store Tryz.sizeOf3 (.tmp rfl) (.const _) rfl (hS.blk 2 rfl) (Nat.le_of_ble_eq_true rfl)) rfl rfl rfl ?_
         intro w74 Nw74
         have zw74 := Nw74.size
         replace hS := hS.putB 2 rfl (show Set_ _ w74 _ (({ soB y with Kind := 10 } : Fact).cells) _ from Nw74)
         change Wx.Sep _ _ _ [_, _, _] at hS
         refine LW.S (CW.region ?_)
         refine LW.pp (PEv.indexArr (j := 3) Tryz.underlying81 Tryz.sizeOf3 (.tmp rfl) (.const _) (by decide)) ?_
         refine LW.pp (PEv.load Tryz.isAgg3 (.tmp rfl) ((hS.blk 1 rfl).celln rfl)) ?_
         refine LW.c (enter_call0 (.cons (.tmp rfl) (.cons (.const _) .nil)) (Tryz.en44)) rfl rfl rfl rfl (pickR_any _ _ _ (by decide)) ?_
         rintro _ w75 ⟨rfl, uw75⟩
         have zw75 := uw75.size
         replace hS := hS.up uw75
         refine LW.pp (PEv.quo (.tmp rfl) (.const _) (by decide)) ?_
         refine LW.pp (PEv.add_w (.const _) (.tmp rfl)) ?_
         refine LW.pp (PEv.fieldAddr (off := 14) Tryz.underlying50 rfl rfl Tryz.sizeOf3 rfl (.tmp rfl)) ?_
         refine LW.s (SEv.store Tryz.sizeOf3 (.tmp rfl) (.tmp rfl) rfl (hS.blk 2 rfl) (Nat.le_of_ble_eq_true rfl)) rfl rfl rfl ?_
         intro w76 Nw76
         have zw76 := Nw76.size
         replace hS := hS.putB 2 rfl (show Set_ _ w76 _ (({ soB y with Kind := 10, Recipe := wI (1 + wI ((pickI y.d 8).tdiv 7)) } : Fact).cells) _ from Nw76)
         change Wx.Sep _ _ _ [_, _, _] at hS
         refine LW.T (CW.region ?_)
         refine LW.pp (PEv.indexArr (j := 5) Tryz.underlying81 Tryz.sizeOf3 (.tmp rfl) (.const _) (by decide)) ?_
         refine LW.pp (PEv.load Tryz.isAgg3 (.tmp rfl) ((hS.blk 1 rfl).celln rfl)) ?_
         refine LW.c (enter_call0 (.cons (.tmp rfl) (.cons (.const _) .nil)) (Tryz.en44)) rfl rfl rfl rfl (pickR_any _ _ _ (by decide)) ?_
         rintro _ w77 ⟨rfl, uw77⟩
         have zw77 := uw77.size
         replace hS := hS.up uw77
         refine LW.pp (PEv.fieldAddr (off := 16) Tryz.underlying50 rfl rfl Tryz.sizeOf3 rfl (.tmp rfl)) ?_
         refine LW.s (SEv.store Tryz.sizeOf3 (.tmp rfl) (.tmp rfl) rfl (hS.blk 2 rfl) (Nat.le_of_ble_eq_true rfl)) rfl rfl rfl ?_
         intro w78 Nw78
         have zw78 := Nw78.size
         replace hS := hS.putB 2 rfl (show Set_ _ w78 _ (({ soB y with Kind := 10, Recipe := wI (1 + wI ((pickI y.d 8).tdiv 7)), Value := pickI y.f 40 } : Fact).cells) _ from Nw78)
         change Wx.Sep _ _ _ [_, _, _] at hS
         refine LW.nil (KW.inBlock (KW.then ?_))
         first | (have hso := soF_p (y := y) (by omega); change Wx.Sep no w0 _ [_, _, aBlk B6 (soP y).cells _] at hS; generalize soP y = ff at hS hso) | (have hso := soF_m (y := y) (by omega); change Wx.Sep no w0 _ [_, _, aBlk B6 (soM y).cells _] at hS; generalize soM y = ff at hS hso) | (have hso := soF_t (y := y) (by omega); change Wx.Sep no w0 _ [_, _, aBlk B6 (soT y).cells _] at hS; generalize soT y = ff at hS hso) | (have hso := soF_r (y := y) (by omega) (by omega) (by omega) (by omega) (by omega); change Wx.Sep no w0 _ [_, _, aBlk B6 (soR y).cells _] at hS; generalize soR y = ff at hS hso)
         have hsl := soL_len (xs.take k)
         refine CW.region (LW.M rfl ?_)
         refine LW.pp (PEv.loadA Tryz.isAgg50 Tryz.sizeOf50 rfl (.tmp rfl) ((hS.blk 2 rfl).agg)) ?_
         refine LW.r (REv.buildSlice (xs := [ff]) (enc := Fact.cells) (mk := fun f : Fact => .agg f.cells) Tryz.underlying22 Tryz.sizeOf50 Tryz.zeroValue50 rfl (by decide) (fun _ => rfl) (fun _ => rfl) (.cons (.tmp rfl) .nil) rfl) rfl rfl rfl rfl ?_
         rintro _ w79 ⟨B137, cB137, rfl, NB137, yB137, xB137⟩
         have eB137 := NB137.at_
         have zB137 := NB137.size
         replace hS := hS.up NB137.up
         have hE137 := xB137
         refine LW.r (REv.appendF (enc := Fact.cells) (bytes := 160) (i := Tryz.t50) Tryz.underlying22 (by kernel_rfl) rfl rfl rfl rfl (by decide) (fun _ => rfl) Fact.one (.tmp rfl) (.tmp rfl) (hS.own 0 rfl) (Sl.of_els hE137) (by have := hsl; simp [maxLen]; omega) (by have := hsl; simp; omega)) rfl rfl rfl rfl ?_
         intro v138 w80 Gw80
         have zw80 := Gw80.fr.size
         replace hS := hS.stp 0 rfl Gw80
         change Wx.Sep _ _ _ [_, _, _] at hS
         refine LW.A rfl (LW.nil (KW.inBlock (KW.then (CW.region (LW.M rfl ?_)))))
         refine LW.pp (PEv.inc (.tmp rfl) (by omega)) ?_
         refine LW.A rfl (LW.nil (KW.round ?_))
         first | exact ⟨(k + 1, v138), ⟨⟨by show k + 1 ≤ _; omega, by show k + 1 ≤ _; omega⟩, by first | (rw [soL_yes hy hkl.2 hso]; exact hS.take 1) | (rw [soL_no hy hkl.2 hso]; exact hS.take 1)⟩, ⟨rfl, rfl, rfl, rfl, trivial⟩, by show xs.length - (k + 1) < xs.length - k; omega⟩ | exact ⟨(k + 1, v), ⟨⟨by show k + 1 ≤ _; omega, by show k + 1 ≤ _; omega⟩, by first | (rw [soL_yes hy hkl.2 hso]; exact hS.take 1) | (rw [soL_no hy hkl.2 hso]; exact hS.take 1)⟩, ⟨rfl, rfl, rfl, rfl, trivial⟩, by show xs.length - (k + 1) < xs.length - k; omega⟩
        ·first | replace h122 := dT h122 | replace h122 := dF h122 | skip
         refine CW.seq (CW.S ?_)
         refine LW.pp (PEv.indexArr (j := 5) Tryz.underlying81 Tryz.sizeOf3 (.tmp rfl) (.const _) (by decide)) ?_
         refine LW.pp (PEv.load Tryz.isAgg3 (.tmp rfl) ((hS.blk 1 rfl).celln rfl)) ?_
         refine LW.c (enter_call0 (.cons (.tmp rfl) (.cons (.const _) .nil)) (Tryz.en44)) rfl rfl rfl rfl (pickR_any _ _ _ (by decide)) ?_
         rintro _ w81 ⟨rfl, uw81⟩
         have zw81 := uw81.size
         replace hS := hS.up uw81
         refine LW.pp (PEv.gtr (.tmp rfl) (.const _)) ?_
         refine LW.T ?_
         refine CW.cond (.tmp rfl) (fun h44 => ?_) (fun h44 => ?_)
         ·first | replace h44 := dT h44 | replace h44 := dF h44 | skip
          have hso := soF_n (y := y) (by omega) (by omega) (by omega) (by omega) h44
          refine CW.exit (KW.then_exit ?_)
          refine KW.block_miss (by decide) ?_
          refine KW.then_exit (KW.block_hit (KW.then (CW.region (LW.M rfl ?_))))
          refine LW.pp (PEv.inc (.tmp rfl) (by omega)) ?_
          refine LW.A rfl (LW.nil (KW.round ?_))
          first | exact ⟨(k + 1, v138), ⟨⟨by show k + 1 ≤ _; omega, by show k + 1 ≤ _; omega⟩, by first | (rw [soL_yes hy hkl.2 hso]; exact hS.take 1) | (rw [soL_no hy hkl.2 hso]; exact hS.take 1)⟩, ⟨rfl, rfl, rfl, rfl, trivial⟩, by show xs.length - (k + 1) < xs.length - k; omega⟩ | exact ⟨(k + 1, v), ⟨⟨by show k + 1 ≤ _; omega, by show k + 1 ≤ _; omega⟩, by first | (rw [soL_yes hy hkl.2 hso]; exact hS.take 1) | (rw [soL_no hy hkl.2 hso]; exact hS.take 1)⟩, ⟨rfl, rfl, rfl, rfl, trivial⟩, by show xs.length - (k + 1) < xs.length - k; omega⟩
         ·first | replace h44 := dT h44 | replace h44 := dF h44 | skip
          refine CW.skip (KW.then (CW.S ?_))
          refine LW.pp (PEv.fieldAddr (off := 0) Tryz.underlying50 rfl rfl Tryz.sizeOf3 rfl (.tmp rfl)) ?_
          refine LW.s (SEv.store Tryz.sizeOf3 (.tmp rfl) (.const _) rfl (hS.blk 2 rfl) (Nat.le_of_ble_eq_true rfl)) rfl rfl rfl ?_
          intro w82 Nw82
          have zw82 := Nw82.size
          replace hS := hS.putB 2 rfl (show Set_ _ w82 _ (({ soB y with Kind := 9 } : Fact).cells) _ from Nw82)
          change Wx.Sep _ _ _ [_, _, _] at hS
          refine LW.S (CW.region ?_)
          refine LW.pp (PEv.indexArr (j := 3) Tryz.underlying81 Tryz.sizeOf3 (.tmp rfl) (.const _) (by decide)) ?_
          refine LW.pp (PEv.load Tryz.isAgg3 (.tmp rfl) ((hS.blk 1 rfl).celln rfl)) ?_
          refine LW.c (enter_call0 (.cons (.tmp rfl) (.cons (.const _) .nil)) (Tryz.en44)) rfl rfl rfl rfl (pickR_any _ _ _ (by decide)) ?_
          rintro _ w83 ⟨rfl, uw83⟩
          have zw83 := uw83.size
          replace hS := hS.up uw83
          refine LW.pp (PEv.add_w (.const _) (.tmp rfl)) ?_
          refine LW.pp (PEv.fieldAddr (off := 1) Tryz.underlying50 rfl rfl Tryz.sizeOf3 rfl (.tmp rfl)) ?_
          refine LW.s (SEv.store Tryz.sizeOf3 (.tmp rfl) (.tmp rfl) rfl (hS.blk 2 rfl) (Nat.le_of_ble_eq_true rfl)) rfl rfl rfl ?_
          intro w84 Nw84
          have zw84 := Nw84.size
          replace hS := hS.putB 2 rfl (show Set_ _ w84 _ (({ soB y with Kind := 9, ID := wI (1 + pickI y.d 9) } : Fact).cells) _ from Nw84)
          change Wx.Sep _ _ _ [_, _, _] at hS
          refine LW.S (CW.region ?_)
          refine LW.pp (PEv.indexArr (j := 4) Tryz.underlying81 Tryz.sizeOf3 (.tmp rfl) (.const _) (by decide)) ?_
          refine LW.pp (PEv.load Tryz.isAgg3 (.tmp rfl) ((hS.blk 1 rfl).celln rfl)) ?_
          refine LW.c (enter_call0 (.cons (.tmp rfl) (.cons (.const _) .nil)) (Tryz.en44)) rfl rfl rfl rfl (pickR_any _ _ _ (by decide)) ?_
          rintro _ w85 ⟨rfl, uw85⟩
          have zw85 := uw85.size
          replace hS := hS.up uw85
          refine LW.pp (PEv.quo (.tmp rfl) (.const _) (by decide)) ?_
          refine LW.pp (PEv.fieldAddr (off := 11) Tryz.underlying50 rfl rfl Tryz.sizeOf3 rfl (.tmp rfl)) ?_
          refine LW.s (SEv.store Tryz.sizeOf3 (.tmp rfl) (.tmp rfl) rfl (hS.blk 2 rfl) (Nat.le_of_ble_eq_true rfl)) rfl rfl rfl ?_
          intro w86 Nw86
          have zw86 := Nw86.size
          replace hS := hS.putB 2 rfl (show Set_ _ w86 _ (({ soB y with Kind := 9, ID := wI (1 + pickI y.d 9), Tool := wI ((pickI y.e 8).tdiv 7) } : Fact).cells) _ from Nw86)
          change Wx.Sep _ _ _ [_, _, _] at hS
          refine LW.T (CW.region ?_)
          refine LW.pp (PEv.indexArr (j := 4) Tryz.underlying81 Tryz.sizeOf3 (.tmp rfl) (.const _) (by decide)) ?_
          refine LW.pp (PEv.load Tryz.isAgg3 (.tmp rfl) ((hS.blk 1 rfl).celln rfl)) ?_
          refine LW.pp (PEv.quo (.tmp rfl) (.const _) (by decide)) ?_
          refine LW.c (enter_call0 (.cons (.tmp rfl) (.cons (.const _) .nil)) (Tryz.en44)) rfl rfl rfl rfl (pickR_any _ _ _ (by decide)) ?_
          rintro _ w87 ⟨rfl, uw87⟩
          have zw87 := uw87.size
          replace hS := hS.up uw87
          refine LW.pp (PEv.quo (.tmp rfl) (.const _) (by decide)) ?_
          refine LW.pp (PEv.fieldAddr (off := 12) Tryz.underlying50 rfl rfl Tryz.sizeOf3 rfl (.tmp rfl)) ?_
          refine LW.s (SEv.store Tryz.sizeOf3 (.tmp rfl) (.tmp rfl) rfl (hS.blk 2 rfl) (Nat.le_of_ble_eq_true rfl)) rfl rfl rfl ?_
          intro w88 Nw88
          have zw88 := Nw88.size
          replace hS := hS.putB 2 rfl (show Set_ _ w88 _ (({ soB y with Kind := 9, ID := wI (1 + pickI y.d 9), Tool := wI ((pickI y.e 8).tdiv 7), Chamber := wI ((pickI (wI (y.e.tdiv 8)) 6).tdiv 5) } : Fact).cells) _ from Nw88)
          change Wx.Sep _ _ _ [_, _, _] at hS
          refine LW.nil (KW.inBlock (KW.then ?_))
          first | (have hso := soF_p (y := y) (by omega); change Wx.Sep no w0 _ [_, _, aBlk B6 (soP y).cells _] at hS; generalize soP y = ff at hS hso) | (have hso := soF_m (y := y) (by omega); change Wx.Sep no w0 _ [_, _, aBlk B6 (soM y).cells _] at hS; generalize soM y = ff at hS hso) | (have hso := soF_t (y := y) (by omega); change Wx.Sep no w0 _ [_, _, aBlk B6 (soT y).cells _] at hS; generalize soT y = ff at hS hso) | (have hso := soF_r (y := y) (by omega) (by omega) (by omega) (by omega) (by omega); change Wx.Sep no w0 _ [_, _, aBlk B6 (soR y).cells _] at hS; generalize soR y = ff at hS hso)
          have hsl := soL_len (xs.take k)
          refine CW.region (LW.M rfl ?_)
          refine LW.pp (PEv.loadA Tryz.isAgg50 Tryz.sizeOf50 rfl (.tmp rfl) ((hS.blk 2 rfl).agg)) ?_
          refine LW.r (REv.buildSlice (xs := [ff]) (enc := Fact.cells) (mk := fun f : Fact => .agg f.cells) Tryz.underlying22 Tryz.sizeOf50 Tryz.zeroValue50 rfl (by decide) (fun _ => rfl) (fun _ => rfl) (.cons (.tmp rfl) .nil) rfl) rfl rfl rfl rfl ?_
          rintro _ w89 ⟨B137, cB137, rfl, NB137, yB137, xB137⟩
          have eB137 := NB137.at_
          have zB137 := NB137.size
          replace hS := hS.up NB137.up
          have hE137 := xB137
          refine LW.r (REv.appendF (enc := Fact.cells) (bytes := 160) (i := Tryz.t50) Tryz.underlying22 (by kernel_rfl) rfl rfl rfl rfl (by decide) (fun _ => rfl) Fact.one (.tmp rfl) (.tmp rfl) (hS.own 0 rfl) (Sl.of_els hE137) (by have := hsl; simp [maxLen]; omega) (by have := hsl; simp; omega)) rfl rfl rfl rfl ?_
          intro v138 w90 Gw90
          have zw90 := Gw90.fr.size
          replace hS := hS.stp 0 rfl Gw90
          change Wx.Sep _ _ _ [_, _, _] at hS
          refine LW.A rfl (LW.nil (KW.inBlock (KW.then (CW.region (LW.M rfl ?_)))))
          refine LW.pp (PEv.inc (.tmp rfl) (by omega)) ?_
          refine LW.A rfl (LW.nil (KW.round ?_))
          first | exact ⟨(k + 1, v138), ⟨⟨by show k + 1 ≤ _; omega, by show k + 1 ≤ _; omega⟩, by first | (rw [soL_yes hy hkl.2 hso]; exact hS.take 1) | (rw [soL_no hy hkl.2 hso]; exact hS.take 1)⟩, ⟨rfl, rfl, rfl, rfl, trivial⟩, by show xs.length - (k + 1) < xs.length - k; omega⟩ | exact ⟨(k + 1, v), ⟨⟨by show k + 1 ≤ _; omega, by show k + 1 ≤ _; omega⟩, by first | (rw [soL_yes hy hkl.2 hso]; exact hS.take 1) | (rw [soL_no hy hkl.2 hso]; exact hS.take 1)⟩, ⟨rfl, rfl, rfl, rfl, trivial⟩, by show xs.length - (k + 1) < xs.length - k; omega⟩
   ·first | replace h14 := dT h14 | replace h14 := dF h14 | skip
    refine CW.exit (KW.then_exit (KW.then_exit (KW.block_hit (KW.then (CW.S (LW.M rfl (LW.A rfl (LW.T (CW.ret ?_)))))))))
    refine KW.ret1 rfl rfl ⟨_, rfl, ?_⟩
    rw [soL_end (by simp at h14; omega)] at hS
    exact ⟨OwnS.ofS hS, hS.upd⟩
end Go.Proofs.YtgffaeachbbjoaaGreatDoor
end
