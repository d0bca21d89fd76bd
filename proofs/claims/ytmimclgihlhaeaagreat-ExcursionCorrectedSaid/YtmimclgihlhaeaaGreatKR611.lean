import Derived.Test.YtmimclgihlhaeaaGreatKR610
import Derived.ChangeKeysEq
section
namespace Go.Wx
def Ij : Fact := Tc 0 0 0 false
end Go.Wx
namespace Go.Proofs.YtmimclgihlhaeaaGreat
open Go.Proofs.Tryz
open Go.Wx Go.RowKit
end Go.Proofs.YtmimclgihlhaeaaGreat
namespace Go.Wx
def Lg (b : Base) (id : Int) : Option Fact := b.Processes.find? fun f => decide (f.ID = id)
end Go.Wx
namespace Go.Proofs.YtmimclgihlhaeaaGreat
open Go.Proofs.Tryz
open Go.Wx Go.RowKit
end Go.Proofs.YtmimclgihlhaeaaGreat
namespace Go.Wx
theorem Lh {p : Fact → Bool} {l : List Fact} {k : Nat} {x : Fact} (h : l[k]? = some x) (hx : p x = true) : (l.take (k + 1)).filter p = (l.take k).filter p ++ [x] := by
 rw [A4 h, List.filter_append, List.filter_cons, if_pos hx]; rfl
theorem Ps {p : Fact → Bool} {l : List Fact} {k : Nat} {x : Fact} (h : l[k]? = some x) (hx : p x = false) : (l.take (k + 1)).filter p = (l.take k).filter p := by
 rw [A4 h, List.filter_append, List.filter_cons, if_neg (by rw [hx]; exact Bool.false_ne_true)]; simp
theorem W8 (p : Fact → Bool) (l : List Fact) (k : Nat) : ((l.take k).filter p).length ≤ k := Nat.le_trans (List.length_filter_le _ _) (by rw [List.length_take]; omega)
def Ar (c n : Int) : Int := (if c < 0 then IntKind.i64.wrap (-(IntKind.i64.wrap (c + 1))) else c).tmod n
end Go.Wx
namespace Go.Proofs.YtmimclgihlhaeaaGreat
open Go.Proofs.Tryz
open Go.Wx Go.RowKit
end Go.Proofs.YtmimclgihlhaeaaGreat
namespace Go.Wx
def Iz (b : Base) (j : Nat) : List Fact := [b.Processes, b.Measures, b.Swaps, b.Lots, b.Flows, b.Qualified, b.Holds, b.Releases, b.Resets, b.Targets, b.Gaps].getD j []
theorem N0 {j : Nat} (h : j < 11) : j = 0 ∨ j = 1 ∨ j = 2 ∨ j = 3 ∨ j = 4 ∨ j = 5 ∨ j = 6 ∨ j = 7 ∨ j = 8 ∨ j = 9 ∨ j = 10 := by omega
theorem BaseC.at_ {w : World} {bc : Array Go.Value} {b : Base} (h : BaseC w bc b) {j : Nat} (hj : j < 11) : ∃ v, bc[j]? = some v ∧ Sl w v 19 Fact.cells (Iz b j) := by
 obtain ⟨v0, v1, v2, v3, v4, v5, v6, v7, v8, v9, v10, e, h0, h1, h2, h3, h4, h5, h6, h7, h8, h9, h10⟩ := h
 subst e
 rcases N0 hj with rfl | rfl | rfl | rfl | rfl | rfl | rfl | rfl | rfl | rfl | rfl
 · exact ⟨v0, rfl, h0⟩
 · exact ⟨v1, rfl, h1⟩
 · exact ⟨v2, rfl, h2⟩
 · exact ⟨v3, rfl, h3⟩
 · exact ⟨v4, rfl, h4⟩
 · exact ⟨v5, rfl, h5⟩
 · exact ⟨v6, rfl, h6⟩
 · exact ⟨v7, rfl, h7⟩
 · exact ⟨v8, rfl, h8⟩
 · exact ⟨v9, rfl, h9⟩
 exact ⟨v10, rfl, h10⟩
end Go.Wx
namespace Go.Proofs.YtmimclgihlhaeaaGreat
open Go.Proofs.Tryz
open Go.Wx Go.RowKit
end Go.Proofs.YtmimclgihlhaeaaGreat
namespace Go.Wx
theorem U5 (l : List Fact) (d : Int) {j : Nat} (hj : j < 11) : Iz (F8 l d) j = Dp [((j + 1 : Nat) : Int)] (Gk (E6 l d)) j := by
 rcases N0 hj with rfl | rfl | rfl | rfl | rfl | rfl | rfl | rfl | rfl | rfl | rfl <;> rfl
end Go.Wx
namespace Go.Proofs.YtmimclgihlhaeaaGreat
open Go.Proofs.Tryz
open Go.Wx Go.RowKit
end Go.Proofs.YtmimclgihlhaeaaGreat
end
section
namespace Go.Wx
open Go.RowKit
section
variable {P : Program} {n : Nat} {ds : List Deferred} {l : Env} {w : World} {d : Option Tmp} {ty : TypeId} {ps : String} {af : Array Edge} {g : Option (Nat × Bool)}
theorem PEv.sliceFrom {T e : TypeId} {x lo : Operand} {ad : Option Addr} {k m cap j : Nat} (hT : P.underlying T = some (.slice e)) (hs : ∀ w, (sizeOf e).run P w = .ok k w) (hx : Val l x (.slice ad m cap)) (hl : Val l lo (.int .i64 (j : Int))) (hj : j ≤ m) :
   PEv P n ds l w ⟨d, .slice T x (some lo) none none, ty, ps, af, g⟩ (.slice (if cap = j then ad else ad.map (·.add (j * k))) (m - j) (cap - j)) := fun a w' ha _ => by
 refine Br ?_
 rw [ha.ev hx]
 simp only [Option.map_none, Option.map_some, ha.ev hl]
 simp [Instr.sliceAt, Instr.slice, Instr.sliceBounds, Instr.sliceBound, asIntOf, run_underlying hT, Result.andThen, hs, hj]
theorem Els.take {α : Type} {enc : α → Array Value} {ad : Option Addr} {k j : Nat} {xs : List α} (h : Els w ad k enc xs) : Els w ad k enc (xs.take j) := fun i x hx => by
 rw [List.getElem?_take] at hx
 split at hx
 · exact h i x hx
 cases hx
end
end Go.Wx
end
section
namespace Go.Wx
open Go.RowKit
theorem Sep.mT {α : Type} {S0 : Nat → Prop} {w0 w : World} {As : List Asr} {e k : Nat} {enc : α → Array Value} (h : Sep S0 w0 w As) (ho : OwnS w 0 e k enc (.slice none 0 0) ([] : List α)) : Sep S0 w0 w (As ++ [Ai e k enc (.slice none 0 0) ([] : List α)]) := h.add (Up.refl _) ho (fun i h => by cases h)
theorem Sep.perm {S0 : Nat → Prop} {w0 w : World} {As Bs : List Asr} (h : Sep S0 w0 w As) (p : As.Perm Bs) : Sep S0 w0 w Bs := ⟨h.fr, fun B hB => h.each B (p.mem_iff.2 hB), (p.pairwise_iff (fun {_ _} hAB i hi hj => hAB i hj hi)).1 h.apart⟩
theorem OwnS.wW {α : Type} {enc : α → Array Value} {b k n cp : Nat} {e : TypeId} {w : World} {ad : Option Addr} {xs : List α} (h : OwnS w b e k enc (.slice ad n cp) xs) (hne : 0 < xs.length) : ∃ g, ad = some ⟨g, 0, none⟩ := by
 obtain ⟨_, ⟨e1, e2⟩ | ⟨g, cap, cur, e1, _⟩⟩ := h
 · omega
 cases e1; exact ⟨g, rfl⟩
end Go.Wx
end
section
namespace Go.Wx
def Fh (f : Fact) : K2 := (f.Time, f.ID)
def Dv (n : Int) : Bool := decide (1 ≤ n) && decide (n ≤ 1000000)
def O0 (p : Fact → Bool) (l : List Fact) : List Fact := Iv Fh (l.filter p)
theorem M0 {α : Type} {enc : α → Array Value} {e k : Nat} {w0 w : World} {v : Value} {xs : List α} {rest : List Asr} (h : Wx.Sep no w0 w (Ai e k enc v xs :: rest)) : OwnS w w0.heap.size e k enc v xs := by
 have hf := h.foot 0 rfl
 obtain ⟨h1, h2⟩ := h.own 0 rfl
 refine ⟨h1, ?_⟩
 rcases h2 with h2 | ⟨g, cap, cur, e, hb, rest⟩
 · exact .inl h2
 exact .inr ⟨g, cap, cur, e, (hf g (by rw [e]; rfl)).resolve_left (fun h => h), rest⟩
end Go.Wx
namespace Go.Proofs.YtmimclgihlhaeaaGreat
open Go.Proofs.Tryz
open Go.Wx Go.RowKit
theorem U6 (a b : Fact) (w : World) : Ret Tryz.prog 164 #[.agg a.cells, .agg b.cells] w fun r w' => r = vi (P3 (Fh a) (Fh b)) ∧ Up w w' := by
 have hW := Up.refl w
 refine cS (n := 17) (m := 9) func164 rfl rfl rfl ?_
 refine CW.S ?_
 refine Ah (.Eu (.t rfl)) rfl ?_
 rintro _ w1 ⟨B2, rfl, NB2⟩
 have eB2 := NB2.at_
 have zB2 := NB2.size
 replace hW := hW.up NB2.up
 have hB2 := NB2.blk
 refine Ah (.Eu (.t rfl)) rfl ?_
 rintro _ w2 ⟨B3, rfl, NB3⟩
 have eB3 := NB3.at_
 have zB3 := NB3.size
 replace hW := hW.up NB3.up
 replace hB2 := hB2.up NB3.up
 have hB3 := NB3.blk
 refine LW.C (LW.S ?_)
 refine Hm 11 [.eq (.pointer (some ⟨B2, 5, none⟩)), .eq (vi (Fh a).1), .eq (.pointer (some ⟨B3, 5, none⟩)), .eq (vi (Fh b).1), .eq (vi (J8 (Fh a).1 (Fh b).1)), .eq (.pointer (some ⟨B2, 1, none⟩)), .eq (vi (Fh a).2), .eq (.pointer (some ⟨B3, 1, none⟩)), .eq (vi (Fh b).2), .eq (vi (J8 (Fh a).2 (Fh b).2)), .pred (fun v w => SlT 3 w v 1 A8 [J8 (Fh a).1 (Fh b).1, J8 (Fh a).2 (Fh b).2])] [15] kQ rfl kQ kQ kQ kQ kQ kQ kQ ⟨PhU.eq _, PhU.eq _, PhU.eq _, PhU.eq _, PhU.eq _, PhU.eq _, PhU.eq _, PhU.eq _, PhU.eq _, PhU.eq _, PhU.pred fun _ _ _ h u => SlT.Fu h u.Fu, trivial⟩ ?_ ?_
 ·intro W hU0
  have hU := (Up.drew w2).trans hU0
  refine aC ⟨rfl, TU.p (.fA 5 underlying198 rfl sizeOf3 rfl) rfl⟩ ?_
  refine aC ⟨rfl, TU.p (.ld isAgg3 rfl ((hB2.up hU).Ak rfl)) rfl⟩ ?_
  refine aC ⟨rfl, TU.p (.fA 5 underlying198 rfl sizeOf3 rfl) rfl⟩ ?_
  refine aC ⟨rfl, TU.p (.ld isAgg3 rfl ((hB3.up hU).Ak rfl)) rfl⟩ ?_
  refine aC ⟨rfl, TU.c (eC (.u rfl rfl) (dB)) (J9 _ _ _) sQ⟩ ?_
  refine aC ⟨rfl, TU.p (.fA 1 underlying198 rfl sizeOf3 rfl) rfl⟩ ?_
  refine aC ⟨rfl, TU.p (.ld isAgg3 rfl ((hB2.up hU).Ak rfl)) rfl⟩ ?_
  refine aC ⟨rfl, TU.p (.fA 1 underlying198 rfl sizeOf3 rfl) rfl⟩ ?_
  refine aC ⟨rfl, TU.p (.ld isAgg3 rfl ((hB3.up hU).Ak rfl)) rfl⟩ ?_
  refine aC ⟨rfl, TU.c (eC (.u rfl rfl) (dB)) (J9 _ _ _) sQ⟩ ?_
  refine aC ⟨rfl, TU.r (REv.buildSlice (xs := [J8 (Fh a).1 (Fh b).1, J8 (Fh a).2 (Fh b).2]) (enc := A8) (mk := vi) underlying30 sizeOf3 zeroValue3 rfl cQ (fun _ => rfl) (fun _ => rfl) (.cons (.t rfl) (.cons (.t rfl) .nil)) rfl) (by rintro _ W1 ⟨B, c, rfl, N, y, x⟩; exact ⟨N.up, SlT.lit ⟨B, c, rfl, N, y, x⟩⟩)⟩ ?_
  exact allL.nil
 intro w3 g hU0 hg
 have hU := (Up.drew w2).trans hU0
 have zw3 := hU.size
 replace hW := hW.up hU
 replace hB2 := hB2.up hU
 replace hB3 := hB3.up hU
 obtain ⟨⟨ad, cp, e15, hE⟩, _⟩ := hg 10 _ 15 cQ rfl rfl
 change LW _ _ _ _ _ _ _ _ ((15, .eq (g 15)) :: _) _
 rw [e15]
 refine LW.K (eC (.o rfl) (pA)) rfl (iL ad cp _ _ hE (by simp)) ?_
 rintro _ w4 ⟨rfl, uw4⟩
 have zw4 := uw4.size
 replace hW := hW.up uw4
 replace hB2 := hB2.up uw4
 replace hB3 := hB3.up uw4
 refine LW.A rfl (LW.T (CW.ret ?_))
 refine Af rfl rfl ⟨_, rfl, ?_⟩
 exact ⟨rfl, hW⟩
theorem mU (x : Fact) (w : World) : Ret Tryz.prog 162 #[.agg x.cells] w fun r w' => r = .agg x.cells ∧ Up w w' := by
 have hW := Up.refl w
 refine cS (n := 4) (m := 9) func162 rfl rfl rfl ?_
 refine CW.S ?_
 refine Ah (.Eu (.t rfl)) rfl ?_
 rintro _ w1 ⟨B1, rfl, NB1⟩
 have eB1 := NB1.at_
 have zB1 := NB1.size
 replace hW := hW.up NB1.up
 have hB1 := NB1.blk
 refine Ah (.A7 zeroValue198) rfl ?_
 rintro _ w2 ⟨B2, rfl, NB2⟩
 have eB2 := NB2.at_
 have zB2 := NB2.size
 replace hW := hW.up NB2.up
 replace hB1 := hB1.up NB2.up
 have hB2 := NB2.blk
 refine LW.S (CW.region ?_)
 refine LW.pp (.la isAgg36 sizeOf36 rfl (hB1.agg)) ?_
 refine LW.E (.A3 sizeOf198 rfl (.t rfl) (.t rfl) (Fact.one _) hB2 rfl) ?_
 intro w3 Nw3
 have zw3 := Nw3.size
 replace hW := hW.sto Nw3.sto oQ
 replace hB1 := hB1.sto Nw3.sto oQ
 replace hB2 := Nw3.blk
 replace hB2 : Blk w3 B2 x.cells _ := hB2
 refine LW.T (CW.ret ?_)
 refine Fa rfl rfl isAgg198 sizeOf198 rfl (hB2.agg) ⟨_, rfl, ?_⟩
 exact ⟨rfl, hW⟩
theorem mV (x : Fact) (w : World) : Ret Tryz.prog 166 #[.agg x.cells] w fun r w' => r = .agg x.cells ∧ Up w w' := by
 have hW := Up.refl w
 refine cS (n := 4) (m := 9) func166 rfl rfl rfl ?_
 refine CW.S ?_
 refine Ah (.Eu (.t rfl)) rfl ?_
 rintro _ w1 ⟨B1, rfl, NB1⟩
 have eB1 := NB1.at_
 have zB1 := NB1.size
 replace hW := hW.up NB1.up
 have hB1 := NB1.blk
 refine Ah (.A7 zeroValue36) rfl ?_
 rintro _ w2 ⟨B2, rfl, NB2⟩
 have eB2 := NB2.at_
 have zB2 := NB2.size
 replace hW := hW.up NB2.up
 replace hB1 := hB1.up NB2.up
 have hB2 := NB2.blk
 refine LW.S (CW.region ?_)
 refine LW.pp (.la isAgg198 sizeOf198 rfl (hB1.agg)) ?_
 refine LW.E (.A3 sizeOf36 rfl (.t rfl) (.t rfl) (Fact.one _) hB2 rfl) ?_
 intro w3 Nw3
 have zw3 := Nw3.size
 replace hW := hW.sto Nw3.sto oQ
 replace hB1 := hB1.sto Nw3.sto oQ
 replace hB2 := Nw3.blk
 replace hB2 : Blk w3 B2 x.cells _ := hB2
 refine LW.T (CW.ret ?_)
 refine Fa rfl rfl isAgg36 sizeOf36 rfl (hB2.agg) ⟨_, rfl, ?_⟩
 exact ⟨rfl, hW⟩
theorem eN (x : Fact) (w : World) : Ret Tryz.prog 167 #[.agg x.cells] w fun r w' => r = .bool true ∧ Up w w' := by
 have hW := Up.refl w
 refine cS (n := 3) (m := 9) func167 rfl rfl rfl ?_
 refine CW.S ?_
 refine Ah (.Eu (.t rfl)) rfl ?_
 rintro _ w1 ⟨B1, rfl, NB1⟩
 have eB1 := NB1.at_
 have zB1 := NB1.size
 replace hW := hW.up NB1.up
 have hB1 := NB1.blk
 refine LW.C (LW.S (CW.region (LW.C (LW.T (CW.ret ?_)))))
 refine Af rfl rfl ⟨_, rfl, ?_⟩
 exact ⟨rfl, hW⟩
theorem iQ (pf : Nat) (lb : Array Go.Value) (p : Fact → Bool) (hen : ∀ args w, (callFunc pf args).run Tryz.prog w = .ok (.enter pf args) w) (ad : Option Addr) (cp : Nat) (l : List Fact) (w : World) (hE0 : Els w ad 19 Fact.cells l) (hl : l.length ≤ 1000000000) (hp : ∀ W, Up w W → ∀ x ∈ l, Ret Tryz.prog pf (#[.agg x.cells] ++ lb) W fun r W' => r = .bool (p x) ∧ Up W W') : Ret Tryz.prog 161 #[.slice ad l.length cp, .func (.func 162) #[] #[], .func (.func pf) #[] lb] w fun r w' => OwnS w' w.heap.size 198 19 Fact.cells r (l.filter p) ∧ Up w w' := by
 obtain ⟨w0, rfl⟩ : ∃ w0, w0 = w := ⟨_, rfl⟩
 have hS := Sep.start no w0
 refine cS (n := 27) (m := 9) func161 rfl rfl rfl ?_
 refine CW.S (LW.C (LW.S (CW.region (LW.C (LW.S (CW.seq ?_))))))
 replace hS := hS.add (Up.refl _) (A' := Ai 198 19 Fact.cells (.slice none 0 0) ([] : List Fact)) (OwnS.nil _ _ _ _ _) (fun i h => by cases h)
 change Wx.Sep _ _ _ [_] at hS
 refine CW.region (LW.M rfl ?_)
 refine LW.pp (.Dq underlying23 (.t rfl)) ?_
 refine LW.pp (.move (.const _)) ?_
 refine LW.T (CW.block ?_)
 refine Am (σ := Nat × Go.Value) (fun s w => (s.1 ≤ l.length) ∧ (Wx.Sep no w0 w [Ai 198 19 Fact.cells s.2 ((l.take s.1).filter p)])) (fun s => [(12, .eq (vi (s.1 : Int))), (7, .eq (s.2))]) ([(1, .eq _), (2, .eq _), (6, .eq _), (10, .eq _), (11, .eq _)]) (fun s => l.length - s.1) (0, .slice none 0 0) ?_ ⟨rfl, rfl, rfl, rfl, rfl, rfl, rfl, trivial⟩ ?_
 ·exact ⟨Nat.zero_le _, hS⟩
 rintro ⟨k, v⟩ w1 ⟨hk, hS⟩
 dsimp only at hk hS
 change CW _ _ _ _ _ _ _ ([(12, .eq (vi (k : Int))), (7, .eq (v))] ++ _) _
 refine CW.S ?_
 refine LW.pp (.lss (.t rfl) (.t rfl)) ?_
 refine LW.S ?_
 refine CW.cond (.t rfl) (fun h13 => ?_) (fun h13 => ?_)
 ·replace h13 := dQ h13
  refine CW.skip (KW.then (CW.seq (CW.block (CW.seq ?_))))
  have hE := hE0.up hS.Cu
  refine CW.region ?_
  obtain ⟨x, hx⟩ := Ac (xs := l) (i := k) oQ
  obtain ⟨Bx, ox, ax, hcx⟩ := hE _ x hx
  refine LW.pp (.An underlying23 sizeOf36 (.t rfl) (.t rfl) oQ ax) ?_
  refine LW.pp (.la isAgg36 sizeOf36 rfl (hcx)) ?_
  refine Ah (.A7 zeroValue36) rfl ?_
  rintro _ w2 ⟨B9, rfl, MB9⟩
  refine LW.E (.A3 sizeOf36 rfl (.t rfl) (.t rfl) (Fact.one _) MB9.blk rfl) ?_
  intro w3 LB9
  have NB9 := MB9.set LB9
  clear LB9 MB9
  have eB9 := NB9.at_
  have zB9 := NB9.size
  replace hcx := hcx.up NB9.up
  replace hS := hS.C7 NB9
  change Wx.Sep _ _ _ [_, _] at hS
  refine LW.S (CW.region (LW.M rfl ?_))
  refine LW.pp (.la isAgg36 sizeOf36 rfl ((hS.blk 1 rfl).agg)) ?_
  refine LW.K (Cf (.t rfl) (.cons (.t rfl) .nil) (hen)) rfl (hp _ hS.Cu x (List.mem_of_getElem? hx)) ?_
  rintro _ w4 ⟨rfl, uw4⟩
  have zw4 := uw4.size
  replace hS := hS.up uw4
  refine LW.T ?_
  refine CW.cond (.t rfl) (fun h18 => ?_) (fun h18 => ?_)
  ·replace h18 := dQ h18
   have hfl := W8 p l k
   refine CW.region (LW.M rfl (LW.M rfl ?_))
   refine LW.pp (.la isAgg36 sizeOf36 rfl ((hS.blk 1 rfl).agg)) ?_
   refine LW.K (Cz (.t rfl) (.cons (.t rfl) .nil) (sX)) rfl (mU _ _) ?_
   rintro _ w5 ⟨rfl, uw5⟩
   have zw5 := uw5.size
   replace hS := hS.up uw5
   refine Ah (.buildSlice (xs := [x]) (enc := Fact.cells) (mk := fun f : Fact => .agg f.cells) underlying196 sizeOf198 zeroValue198 rfl cQ (fun _ => rfl) (fun _ => rfl) (.cons (.t rfl) .nil) rfl) rfl ?_
   rintro _ w6 ⟨B23, cB23, rfl, NB23, yB23, xB23⟩
   have eB23 := NB23.at_
   have zB23 := NB23.size
   replace hS := hS.up NB23.up
   have hE23 := xB23
   refine Ah (.C3 (enc := Fact.cells) (bytes := 160) (i := Tryz.t198) underlying196 kQ rfl rfl rfl rfl cQ (fun _ => rfl) Fact.one (.t rfl) (.t rfl) (hS.own 0 rfl) (Aj hE23) (by have := hfl; simp [maxLen]; omega) (by have := hfl; simp; omega)) rfl ?_
   intro v24 w7 Gw7
   have zw7 := Gw7.fr.size
   replace hS := hS.Dj 0 rfl Gw7
   change Wx.Sep _ _ _ [_, _] at hS
   refine LW.A rfl (LW.nil (KW.inBlock (KW.then (CW.region ?_))))
   refine LW.pp (.inc (.t rfl) oQ) ?_
   refine LW.M rfl (LW.nil (KW.round ?_))
   first | exact ⟨(k + 1, v24), ⟨by show k + 1 ≤ _; omega, by first | (rw [Lh hx h18]; exact hS.take 1) | (rw [Ps hx h18]; exact hS.take 1)⟩, ⟨rfl, rfl, rfl, rfl, rfl, rfl, rfl, trivial⟩, by show l.length - (k + 1) < l.length - k; omega⟩ | exact ⟨(k + 1, v), ⟨by show k + 1 ≤ _; omega, by first | (rw [Lh hx h18]; exact hS.take 1) | (rw [Ps hx h18]; exact hS.take 1)⟩, ⟨rfl, rfl, rfl, rfl, rfl, rfl, rfl, trivial⟩, by show l.length - (k + 1) < l.length - k; omega⟩
  replace h18 := dQ h18
  refine CW.skip (KW.inBlock (KW.then (CW.region ?_)))
  refine LW.pp (.inc (.t rfl) oQ) ?_
  refine LW.M rfl (LW.nil (KW.round ?_))
  first | exact ⟨(k + 1, v24), ⟨by show k + 1 ≤ _; omega, by first | (rw [Lh hx h18]; exact hS.take 1) | (rw [Ps hx h18]; exact hS.take 1)⟩, ⟨rfl, rfl, rfl, rfl, rfl, rfl, rfl, trivial⟩, by show l.length - (k + 1) < l.length - k; omega⟩ | exact ⟨(k + 1, v), ⟨by show k + 1 ≤ _; omega, by first | (rw [Lh hx h18]; exact hS.take 1) | (rw [Ps hx h18]; exact hS.take 1)⟩, ⟨rfl, rfl, rfl, rfl, rfl, rfl, rfl, trivial⟩, by show l.length - (k + 1) < l.length - k; omega⟩
 replace h13 := dQ h13
 refine CW.exit (Aa (Aa (Ad (KW.then (CW.S (LW.M rfl (LW.A rfl (LW.T (CW.ret ?_)))))))))
 refine Af rfl rfl ⟨_, rfl, ?_⟩
 have hkl : k = l.length := by omega
 rw [hkl, List.take_length] at hS
 exact ⟨M0 hS, hS.Cu⟩
theorem iR (pf : Nat) (lb : Array Go.Value) (p : Fact → Bool) (hen : ∀ args w, (callFunc pf args).run Tryz.prog w = .ok (.enter pf args) w) (ad : Option Addr) (cp : Nat) (l : List Fact) (w : World) (hE0 : Els w ad 19 Fact.cells l) (hl : l.length ≤ 1000000000) (hp : ∀ W, Up w W → ∀ x ∈ l, Ret Tryz.prog pf (#[.agg x.cells] ++ lb) W fun r W' => r = .bool (p x) ∧ Up W W') : Ret Tryz.prog 165 #[.slice ad l.length cp, .func (.func 166) #[] #[], .func (.func pf) #[] lb] w fun r w' => OwnS w' w.heap.size 36 19 Fact.cells r (l.filter p) ∧ Up w w' := by
 obtain ⟨w0, rfl⟩ : ∃ w0, w0 = w := ⟨_, rfl⟩
 have hS := Sep.start no w0
 refine cS (n := 27) (m := 9) func165 rfl rfl rfl ?_
 refine CW.S (LW.C (LW.S (CW.region (LW.C (LW.S (CW.seq ?_))))))
 replace hS := hS.add (Up.refl _) (A' := Ai 36 19 Fact.cells (.slice none 0 0) ([] : List Fact)) (OwnS.nil _ _ _ _ _) (fun i h => by cases h)
 change Wx.Sep _ _ _ [_] at hS
 refine CW.region (LW.M rfl ?_)
 refine LW.pp (.Dq underlying196 (.t rfl)) ?_
 refine LW.pp (.move (.const _)) ?_
 refine LW.T (CW.block ?_)
 refine Am (σ := Nat × Go.Value) (fun s w => (s.1 ≤ l.length) ∧ (Wx.Sep no w0 w [Ai 36 19 Fact.cells s.2 ((l.take s.1).filter p)])) (fun s => [(12, .eq (vi (s.1 : Int))), (7, .eq (s.2))]) ([(1, .eq _), (2, .eq _), (6, .eq _), (10, .eq _), (11, .eq _)]) (fun s => l.length - s.1) (0, .slice none 0 0) ?_ ⟨rfl, rfl, rfl, rfl, rfl, rfl, rfl, trivial⟩ ?_
 ·exact ⟨Nat.zero_le _, hS⟩
 rintro ⟨k, v⟩ w1 ⟨hk, hS⟩
 dsimp only at hk hS
 change CW _ _ _ _ _ _ _ ([(12, .eq (vi (k : Int))), (7, .eq (v))] ++ _) _
 refine CW.S ?_
 refine LW.pp (.lss (.t rfl) (.t rfl)) ?_
 refine LW.S ?_
 refine CW.cond (.t rfl) (fun h13 => ?_) (fun h13 => ?_)
 ·replace h13 := dQ h13
  refine CW.skip (KW.then (CW.seq (CW.block (CW.seq ?_))))
  have hE := hE0.up hS.Cu
  refine CW.region ?_
  obtain ⟨x, hx⟩ := Ac (xs := l) (i := k) oQ
  obtain ⟨Bx, ox, ax, hcx⟩ := hE _ x hx
  refine LW.pp (.An underlying196 sizeOf198 (.t rfl) (.t rfl) oQ ax) ?_
  refine LW.pp (.la isAgg198 sizeOf198 rfl (hcx)) ?_
  refine Ah (.A7 zeroValue198) rfl ?_
  rintro _ w2 ⟨B9, rfl, MB9⟩
  refine LW.E (.A3 sizeOf198 rfl (.t rfl) (.t rfl) (Fact.one _) MB9.blk rfl) ?_
  intro w3 LB9
  have NB9 := MB9.set LB9
  clear LB9 MB9
  have eB9 := NB9.at_
  have zB9 := NB9.size
  replace hcx := hcx.up NB9.up
  replace hS := hS.C7 NB9
  change Wx.Sep _ _ _ [_, _] at hS
  refine LW.S (CW.region (LW.M rfl ?_))
  refine LW.pp (.la isAgg198 sizeOf198 rfl ((hS.blk 1 rfl).agg)) ?_
  refine LW.K (Cf (.t rfl) (.cons (.t rfl) .nil) (hen)) rfl (hp _ hS.Cu x (List.mem_of_getElem? hx)) ?_
  rintro _ w4 ⟨rfl, uw4⟩
  have zw4 := uw4.size
  replace hS := hS.up uw4
  refine LW.T ?_
  refine CW.cond (.t rfl) (fun h18 => ?_) (fun h18 => ?_)
  ·replace h18 := dQ h18
   have hfl := W8 p l k
   refine CW.region (LW.M rfl (LW.M rfl ?_))
   refine LW.pp (.la isAgg198 sizeOf198 rfl ((hS.blk 1 rfl).agg)) ?_
   refine LW.K (Cz (.t rfl) (.cons (.t rfl) .nil) (tB)) rfl (mV _ _) ?_
   rintro _ w5 ⟨rfl, uw5⟩
   have zw5 := uw5.size
   replace hS := hS.up uw5
   refine Ah (.buildSlice (xs := [x]) (enc := Fact.cells) (mk := fun f : Fact => .agg f.cells) underlying23 sizeOf36 zeroValue36 rfl cQ (fun _ => rfl) (fun _ => rfl) (.cons (.t rfl) .nil) rfl) rfl ?_
   rintro _ w6 ⟨B23, cB23, rfl, NB23, yB23, xB23⟩
   have eB23 := NB23.at_
   have zB23 := NB23.size
   replace hS := hS.up NB23.up
   have hE23 := xB23
   refine Ah (.C3 (enc := Fact.cells) (bytes := 160) (i := Tryz.t36) underlying23 kQ rfl rfl rfl rfl cQ (fun _ => rfl) Fact.one (.t rfl) (.t rfl) (hS.own 0 rfl) (Aj hE23) (by have := hfl; simp [maxLen]; omega) (by have := hfl; simp; omega)) rfl ?_
   intro v24 w7 Gw7
   have zw7 := Gw7.fr.size
   replace hS := hS.Dj 0 rfl Gw7
   change Wx.Sep _ _ _ [_, _] at hS
   refine LW.A rfl (LW.nil (KW.inBlock (KW.then (CW.region ?_))))
   refine LW.pp (.inc (.t rfl) oQ) ?_
   refine LW.M rfl (LW.nil (KW.round ?_))
   first | exact ⟨(k + 1, v24), ⟨by show k + 1 ≤ _; omega, by first | (rw [Lh hx h18]; exact hS.take 1) | (rw [Ps hx h18]; exact hS.take 1)⟩, ⟨rfl, rfl, rfl, rfl, rfl, rfl, rfl, trivial⟩, by show l.length - (k + 1) < l.length - k; omega⟩ | exact ⟨(k + 1, v), ⟨by show k + 1 ≤ _; omega, by first | (rw [Lh hx h18]; exact hS.take 1) | (rw [Ps hx h18]; exact hS.take 1)⟩, ⟨rfl, rfl, rfl, rfl, rfl, rfl, rfl, trivial⟩, by show l.length - (k + 1) < l.length - k; omega⟩
  replace h18 := dQ h18
  refine CW.skip (KW.inBlock (KW.then (CW.region ?_)))
  refine LW.pp (.inc (.t rfl) oQ) ?_
  refine LW.M rfl (LW.nil (KW.round ?_))
  first | exact ⟨(k + 1, v24), ⟨by show k + 1 ≤ _; omega, by first | (rw [Lh hx h18]; exact hS.take 1) | (rw [Ps hx h18]; exact hS.take 1)⟩, ⟨rfl, rfl, rfl, rfl, rfl, rfl, rfl, trivial⟩, by show l.length - (k + 1) < l.length - k; omega⟩ | exact ⟨(k + 1, v), ⟨by show k + 1 ≤ _; omega, by first | (rw [Lh hx h18]; exact hS.take 1) | (rw [Ps hx h18]; exact hS.take 1)⟩, ⟨rfl, rfl, rfl, rfl, rfl, rfl, rfl, trivial⟩, by show l.length - (k + 1) < l.length - k; omega⟩
 replace h13 := dQ h13
 refine CW.exit (Aa (Aa (Ad (KW.then (CW.S (LW.M rfl (LW.A rfl (LW.T (CW.ret ?_)))))))))
 refine Af rfl rfl ⟨_, rfl, ?_⟩
 have hkl : k = l.length := by omega
 rw [hkl, List.take_length] at hS
 exact ⟨M0 hS, hS.Cu⟩
end Go.Proofs.YtmimclgihlhaeaaGreat
end
