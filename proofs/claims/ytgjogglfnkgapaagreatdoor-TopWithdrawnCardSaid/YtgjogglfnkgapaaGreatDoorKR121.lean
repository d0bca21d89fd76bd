import Derived.Test.YtgjogglfnkgapaaGreatDoorKR120
import Derived.Lib.AppendZerosOnto
import Derived.Laws.AppendOwn
namespace Go.Wx
section
open Go.Lib
variable {P : Program} {n : Nat} {ds : List Deferred} {l : Env} {w : World} {d : Option Tmp} {ty : TypeId} {ps : String} {af : Array Edge} {g : Option (Nat × Bool)}
theorem PEv.IE {T e : TypeId} {x : Operand} {ad : Option Addr} {k c : Nat} (hT : P.underlying T = some (.slice e)) (hx : Val l x (.slice ad k c)) :
   PEv P n ds l w ⟨d, .call { callee := .builtin .cap, args := #[x], argTypes := #[T] }, ty, ps, af, g⟩ (.int .i64 (c : Int)) := fun a w' ha _ => by
 rw [BigFrame.execOp_builtin, BigFrame.builtin_cap]
 refine Cm ?_
 simp [Builtin.cap_, run_underlying hT, Sem.run_bind, goInt, ha.ev hx]
theorem REv.wM {T tn e : TypeId} {i : TypeInfo} {s x : Operand} {kn : IntKind} (hT : P.underlying T = some (.slice e)) (hn : P.underlying tn = some (.int kn)) (hi : P.info? e = some i) (hz : i.zero = some (vi 0)) (hsz : i.size = 1) (hb : i.bytes = 8) (hs : Val l s (.slice none 0 0)) (hx : Val l x (vi 3)) :
   REv P n ds l w ⟨d, .call { callee := .builtin .append, args := #[s, x], argTypes := #[T, tn] }, ty, ps, af, g⟩ (fun v w' => ∃ B cp, v = .slice (some ⟨B, 0, none⟩) 3 cp ∧ w.heap.size ≤ B ∧ OwnS w' 0 e 1 Br (.slice (some ⟨B, 0, none⟩) 0 cp) ([] : List Int) ∧ Up w w') := fun a ha => by
 have hold : (Builtin.firstCells i.size 0 (.slice none 0 0)).run P w.drew = .ok ([] : List Value).toArray w.drew := run_firstCells_none w.drew i.size 0 0 0
 have hr := run_append_grow_zeros (P := P) w T tn ty e i (vi 0) .i64 kn hT hn hi hz none 0 0 [] hold 3 cQ oQ cQ cQ (by rw [hb]; decide) (by rw [hb]; decide)
 have N := New.alloc w.drew (([] : List Value).toArray ++ Builtin.zeroCells (vi 0).cells 3 ++ Builtin.zeroCells (vi 0).cells (grownCap w (0 + 3) 0 e - (0 + 3))) e
 have hc := grownCap_ge w (0 + 3) 0 e
 have hm := grownCap_le_maxLen w (0 + 3) 0 e cQ
 refine ⟨_, _, ?_, w.heap.size, grownCap w (0 + 3) 0 e, rfl, Nat.le_refl _, ⟨rfl, .inr ⟨w.heap.size, grownCap w (0 + 3) 0 e, _, rfl, Nat.zero_le _, N.blk, Nat.zero_le _, hm, ?_, by simp⟩⟩, (Up.drew w).trans N.up⟩
 · simp only [execOp, resolve, invoke, builtin, Sem.run_bind, Sem.run_pure, Result.andThen_ok, List.map_toArray, List.map_cons, List.map_nil, ha.ev hs, ha.ev hx]
   rw [show (Builtin.append_ #[T, tn] ty #[.slice none 0 0, vi 3]).run P w = _ from hr]
   rfl
 simp only [Array.size_append, size_zeroCells, show (vi 0).cells.size = 1 from rfl, List.size_toArray, List.length_nil]
 omega
end
structure IL where
 ad : Option Addr
 l : List Int
 cp : Nat
def IL.cells (s : IL) : Array Value := #[.slice s.ad s.l.length s.cp]
theorem yM {L : List IL} (h : ∀ s ∈ L, s.l.length = 1) {k : Nat} : ((L.take k).flatMap (·.l)).length = (L.take k).length := by
 have : ∀ M : List IL, (∀ s ∈ M, s.l.length = 1) → (M.flatMap (·.l)).length = M.length := by
   intro M hM
   induction M with
   | nil => rfl
   | cons s M ih => rw [List.flatMap_cons, List.length_append, hM s List.mem_cons_self, ih fun t ht => hM t (List.mem_cons_of_mem _ ht), List.length_cons, Nat.add_comm]
 exact this _ fun s hs => h s (List.mem_of_mem_take hs)
def wN (i : Nat) : List Int := if i < 2 then [(i : Int) + 1] else []
def wO (e : TypeId) (s : Sk) : List Asr := [J e 1 Br s.tv s.tl, J e 1 Br s.nv s.nx]
structure StQ (L : List Sk) (k : Nat) : Prop where
 len : L.length = k
 at_ : ∀ i s, L[i]? = some s → s.Good ∧ s.nx = wN i
theorem StQ.nil : StQ [] 0 := ⟨rfl, fun i s h => by simp at h⟩
theorem StQ.snoc {L : List Sk} {k : Nat} {s : Sk} (h : StQ L k) (hg : s.Good) (hn : s.nx = wN k) : StQ (L ++ [s]) (k + 1) := by
 refine ⟨by rw [List.length_append, h.len]; rfl, fun i x hx => ?_⟩
 by_cases hi : i < L.length
 · rw [List.getElem?_append_left hi] at hx
   exact h.at_ i x hx
 rw [List.getElem?_append_right (by omega)] at hx
 have h0 : i - L.length = 0 := by
   have := (List.getElem?_eq_some_iff.1 hx).1
   simp at this
   omega
 rw [h0] at hx
 cases hx
 have : i = k := by have := h.len; omega
 subst this
 exact ⟨hg, hn⟩
theorem StQ.three {L : List Sk} (h : StQ L 3) : ∃ s0 s1 s2, L = [s0, s1, s2] := by
 obtain ⟨h, _⟩ := h
 match L, h with
 | [s0, s1, s2], _ => exact ⟨s0, s1, s2, rfl⟩
theorem iM {k : Nat} (hk : k < 3) (ta : Option Addr) (tc : Nat) (nx : List Int) (na : Option Addr) (nc : Nat) (hn : nx = wN k) : (⟨1, [(k : Int)], ta, tc, 10, 20, nx, na, nc, -1, 0⟩ : Sk).Good := by
 subst hn
 refine ⟨rfl, rfl, rfl, rfl, rfl, ⟨rfl, ?_⟩, ?_⟩
 · intro x hx
   rw [List.mem_singleton.1 hx]
   unfold rR
   rw [decide_eq_true (show (0 : Int) ≤ (k : Int) by omega), decide_eq_true (show (k : Int) ≤ 59 by omega)]
   rfl
 show (wN k).length ≤ 1 ∧ ∀ x ∈ wN k, rR x 0 2 = true
 match k, hk with
 | 0, _ => exact ⟨Nat.le_refl _, fun x hx => by rw [List.mem_singleton.1 hx]; rfl⟩
 | 1, _ => exact ⟨Nat.le_refl _, fun x hx => by rw [List.mem_singleton.1 hx]; rfl⟩
 | 2, _ => exact ⟨Nat.zero_le _, fun x hx => by cases hx⟩
theorem wP {e : TypeId} {L : List Sk} {w : World} (h : (Dt (L.flatMap (wO e))).holds w) {s : Sk} (hs : s ∈ L) : Els w s.ta 1 Br s.tl ∧ Els w s.na 1 Br s.nx :=
 ⟨Db (show OwnS w 0 e 1 Br (.slice s.ta s.tl.length s.tc) s.tl from h.1 _ (List.mem_flatMap.2 ⟨s, hs, List.mem_cons_self⟩)) (fun _ => rfl),
   Db (show OwnS w 0 e 1 Br (.slice s.na s.nx.length s.nc) s.nx from h.1 _ (List.mem_flatMap.2 ⟨s, hs, List.mem_cons_of_mem _ List.mem_cons_self⟩)) (fun _ => rfl)⟩
theorem iN {e : TypeId} {L : List Sk} {S0 : Nat → Prop} {w0 w : World} {Bs : List Asr} {s : Sk} (h : Wx.Sep S0 w0 w (Bs ++ [Dt (L.flatMap (wO e)), J e 1 Br s.tv s.tl, J e 1 Br s.nv s.nx])) : Wx.Sep S0 w0 w (Bs ++ [Dt ((L ++ [s]).flatMap (wO e))]) := by
 have h1 := Sep.unfold (Bs := Bs) (As := L.flatMap (wO e)) (rest := [_, _]) h
 have h2 := Oc (Bs := Bs) (As := L.flatMap (wO e) ++ [J e 1 Br s.tv s.tl, J e 1 Br s.nv s.nx]) (rest := []) (by simpa only [List.append_assoc, List.append_nil] using h1)
 rw [List.flatMap_append]
 simpa [wO] using h2
theorem FlE.of {w : World} {sa wa : Option Addr} {sc e : Nat} {s0 s1 s2 : Sk} (hQ : StQ [s0, s1, s2] 3) (h1 : OwnS w 0 sc 7 Sk.cells (.slice sa 3 e) [s0, s1, s2]) {T c : Nat} (h2 : OwnS w 0 T 3 Wn.cells (.slice wa 1 c) [rS]) {ti : TypeId} (h3 : (Dt ([s0, s1, s2].flatMap (wO ti))).holds w) : FlE w sa wa s0 s1 s2 :=
 ⟨Db h1 (fun _ => rfl), fun s hs => by
   obtain ⟨i, hi⟩ := List.mem_iff_getElem?.1 hs
   exact (hQ.at_ i s hi).1, (hQ.at_ 0 s0 rfl).2, (hQ.at_ 1 s1 rfl).2, (hQ.at_ 2 s2 rfl).2, fun s hs => wP h3 hs, Db h2 (fun _ => rfl)⟩
section
variable {P : Program} {n : Nat} {l : Env} {w : World} {fn : Func} {RR : Ending → World → Prop}
theorem rV {t u : Tmp} {T : TypeId} {B k : Nat} {cs : Array Value} {x : Value} (hr : fn.results = #[.cell t T, .tmp u]) (hv : lk l t = some (.eq (.pointer (some ⟨B, 0, none⟩)))) (hu : lk l u = some (.eq x)) (hT : ∀ w, (isAgg T).run P w = .ok true w) (hs : ∀ w, (sizeOf T).run P w = .ok k w) (hk : cs.size = k) (hc : AggAt w B 0 cs)
   (hR : RR (.returned (.tuple #[.agg cs, x])) w) : KW n [] (bodyPost P fn RR .ret) l w := fun a ha =>
 ⟨ha.defers, .tuple #[.agg cs, x], by
   have h1 : a.tmps.getD t undef = .pointer (some ⟨B, 0, none⟩) := ha.val _ _ hv
   have h2 : a.tmps.getD u undef = x := ha.val _ _ hu
   rw [Array.getD_eq_getD_getElem?] at h1 h2
   simp [results, hr, h1, h2, asAddr, F6 hT hs hk hc], hR⟩
end
def Qs (k : Int) (v : Value) : Array Value := #[vi k, v]
theorem wR {xs ys : List Int} {k : Nat} {x y : Int} (h : xs.take k = ys.take k) (hx : xs[k]? = some x) (hy : ys[k]? = some y) (e : x = y) : xs.take (k + 1) = ys.take (k + 1) := by
 rw [List.take_add_one, List.take_add_one, h, hx, hy, e]
theorem IF {xs ys : List Int} {k : Nat} {x y : Int} (hx : xs[k]? = some x) (hy : ys[k]? = some y) (e : ¬ x = y) : ¬ xs = ys := fun h => e (by subst h; exact Option.some.inj (hx.symm.trans hy))
end Go.Wx
namespace Go.Proofs.YtgjogglfnkgapaaGreatDoor
open Go.Proofs.Tryz
open Go.Wx Go.RowKit
theorem lW (w : World) : Ret prog 288 #[.slice none 0 0, vi 3] w fun r w' => ∃ B cp, r = .slice (some ⟨B, 0, none⟩) 0 cp ∧ w.heap.size ≤ B ∧ OwnS w' 0 3 1 Br (.slice (some ⟨B, 0, none⟩) 0 cp) ([] : List Int) ∧ Up w w' := by
 have hW := Up.refl w
 refine cT 27 func288 rfl (Af (Ay (Ao (Af (Ab rfl (I (.fa (PEv.lss (.t rfl) (.const _)) (rfl)) (Ai (CW.f rfl (Aj (Ac (Am (Af (Ab rfl (Ab rfl (I (.IE underlying34 (.t rfl)) (Ab rfl (I (.Di underlying34 (.t rfl)) (I (.sub (.t rfl) (.t rfl) oQ oQ) (I (.sub (.t rfl) (.t rfl) oQ oQ) (LW.A rfl (Ao (Aa (Ab rfl (I (.tr (PEv.gtr (.t rfl) (.const _)) (rfl)) (Ai (CW.v rfl (Aa (Ab rfl (Ab rfl (I (.IE underlying34 (.t rfl)) (I (.N9 underlying34 sizeOf3 (.t rfl) (.t rfl) oQ) (Ab rfl (Al (.wM (i := Tryz.t3) underlying34 underlying3 kQ rfl rfl rfl (.t rfl) (.t rfl)) rfl ?_)))))))))))))))))))))))))))))))))
 rintro _ w1 ⟨B, cpB, rfl, zB, hO, uB⟩
 replace hW := hW.up uB
 refine Ab rfl (I (.Di underlying34 (.t rfl)) (I (.N9 underlying34 sizeOf3 (.t rfl) (.t rfl) oQ) (LW.A rfl (Ao (Aa (Ab rfl (LW.A rfl (Ai (Ak (KW.q ?_))))))))))
 exact ⟨_, _, rfl, zB, hO, hW⟩
theorem aG (ad : Option Addr) (cp : Nat) (L : List IL) (w : World) (hE : Els w ad 1 IL.cells L) (hl : L.length = 3) (hL : ∀ s ∈ L, s.l.length = 1 ∧ Els w s.ad 1 Br s.l) : Ret prog 191 #[.slice ad 3 cp] w fun r w' => OwnS w' w.heap.size 3 1 Br r (L.flatMap (·.l)) ∧ Up w w' := by
 obtain ⟨w0, rfl, hS⟩ := W0 w
 refine cT 36 func191 rfl (Af (Ay (Ao (Aa (Ay (Ao (Af (Ab rfl (I (.Di underlying366 (.t rfl)) (I (.move (.const _)) (Ai (An (A8 (σ := Nat) (fun s w => (s ≤ 3) ∧ (Wx.Sep no w0 w [])) (fun s => [(11, .eq (vi (s : Int))), (3, .eq (vi (s : Int)))]) ([(0, .eq _), (2, .eq _), (9, .eq _), (10, .eq _)]) (fun s => 3 - s) 0 ?_ tQ ?_)))))))))))))
 ·exact ⟨Nat.zero_le _, hS⟩
 rintro k w1 ⟨hk, hS⟩
 refine Af (I (.l2 rfl rfl) (Ao (CW.b rfl (fun h12 => ?_) (fun h12 => ?_))))
 ·replace h12 := dQ h12
  refine Aj (Ac (Am (An (Am ?_))))
  have hk3 : k < 3 := Int.ofNat_lt.1 h12
  obtain ⟨s, hs⟩ := Au (xs := L) (i := k) oQ
  obtain ⟨Bs, os, as_, hcs⟩ := hE k s hs
  obtain ⟨hs1, hsE⟩ := hL s (List.mem_of_getElem? hs)
  refine Aa (I (.Av underlying366 sizeOf34 (j := k) (.t rfl) (.t rfl) oQ as_) (I (.lb rfl (((hcs.up hS.Cr).nth (j := 0) rfl))) (LW.A rfl (Ao (Aa (Ab rfl (Ab rfl (I (.Di underlying34 (.t rfl)) (I (.dO (v' := vi ((k + 1 : Nat) : Int)) (PEv.add (.t rfl) (.t rfl) (by rw [hs1]; omega) (by rw [hs1]; omega)) (by rw [hs1]; rfl)) (LW.A rfl (Ao (Aa (Ab rfl (I (.fa (PEv.lss (.t rfl) (.const _)) (decide_eq_false oQ)) (Ai (CW.f rfl (Aj (Ae (Ac (Aa (I (.ic rfl oQ) (Ab rfl (LW.nil (Ar ?_))))))))))))))))))))))))
  exact ⟨k + 1, ⟨by omega, hS⟩, tQ, by omega⟩
 replace h12 := dQ h12
 refine Bl (Ad (Ad (Aq (Ac (Am ?_)))))
 have hk3 : k = 3 := by have : ¬ k < 3 := fun h => h12 (Int.ofNat_lt.2 h); omega
 subst hk3
 refine Aa (Ab rfl (A3 (eC (.cons (.const _) (.cu rfl)) (FG)) rfl (lW _) ?_))
 rintro _ w2 ⟨B, cpB, rfl, zB, hOB, uw2⟩
 replace hS := hS.add uw2 (A' := J 3 1 Br (.slice (some ⟨B, 0, none⟩) 0 cpB) ([] : List Int)) (hOB) (fun i h => by cases h; exact zB)
 refine LW.A rfl (Ao (Af (Ab rfl (I (.Di underlying366 (.t rfl)) (I (.move (.const _)) (Ai (An (A8 (σ := Nat × Go.Value) (fun s w => (s.1 ≤ 3) ∧ (Wx.Sep no w0 w [J 3 1 Br s.2 ((L.take s.1).flatMap (·.l))])) (fun s => [(27, .eq (vi (s.1 : Int))), (6, .eq (s.2))]) ([(2, .eq _), (25, .eq _), (26, .eq _)]) (fun s => 3 - s.1) (0, .slice (some ⟨B, 0, none⟩) 0 cpB) ?_ tQ ?_))))))))
 ·exact ⟨Nat.zero_le _, hS⟩
 rintro ⟨k, v⟩ w3 ⟨hk, hS⟩
 change CW _ _ _ _ _ _ _ ([(27, .eq (vi (k : Int))), (6, .eq (v))] ++ _) _
 refine Af (I (.l2 rfl rfl) (Ao (CW.b rfl (fun h28 => ?_) (fun h28 => ?_))))
 ·replace h28 := dQ h28
  refine Aj (Ac (Am (An (Am ?_))))
  have hk3 : k < 3 := Int.ofNat_lt.1 h28
  obtain ⟨s, hs⟩ := Au (xs := L) (i := k) oQ
  obtain ⟨Bs, os, as_, hcs⟩ := hE k s hs
  obtain ⟨hs1, hsE⟩ := hL s (List.mem_of_getElem? hs)
  refine Aa (I (.Av underlying366 sizeOf34 (j := k) (.t rfl) (.t rfl) oQ as_) (I (.lb rfl (((hcs.up hS.Cr).nth (j := 0) rfl))) (LW.A rfl (Ai (Aa (Ab rfl (Ab rfl (Al (.C2 (enc := Br) (bytes := 8) (i := Tryz.t3) underlying34 kQ rfl rfl rfl rfl cQ (fun _ => rfl) Hx (.t rfl) (.t rfl) (hS.own 0 rfl) (Aw (Els.up hsE hS.Cr)) (by rw [yM (fun s h => (hL s h).1), List.length_take, hs1]; simp [maxLen]; omega) (by rw [yM (fun s h => (hL s h).1), List.length_take, hs1]; omega)) rfl ?_))))))))
  intro v33 w4 Gw4
  replace hS := hS.Ez 0 rfl Gw4
  refine LW.A rfl (LW.nil (Ae (Ac (Aa (I (.ic rfl oQ) (Ab rfl (LW.nil (Ar ?_))))))))
  exact ⟨(k + 1, v33), ⟨by show k + 1 ≤ 3; omega, by rw [Nt hs, List.flatMap_append, show [s].flatMap (·.l) = s.l by simp]; exact hS⟩, tQ, by show 3 - (k + 1) < 3 - k; omega⟩
 replace h28 := dQ h28
 refine Bl (Ad (Ad (Aq (Ac (Af (Ab rfl (LW.A rfl (Ai (Ak (KW.q ?_))))))))))
 have hk3 : k = L.length := by have : ¬ k < 3 := fun h => h28 (Int.ofNat_lt.2 h); omega
 rw [hk3, List.take_length] at hS
 exact ⟨(hS.own 0 rfl).I9 (fun i h => (hS.foot 0 rfl i h).resolve_left (fun h => h)), hS.Cr⟩
theorem wS (sa wa : Option Addr) (sc wc : Nat) (s0 s1 s2 : Sk) (w : World) (hF : FlE w sa wa s0 s1 s2) : Ret prog 189 #[.agg (Ki sa sc wa wc), vi 0, vi 2] w fun r w' => ∃ ad c, r = .tuple #[.slice ad 1 c, .bool true] ∧ Els w' ad 1 Br [1] ∧ Up w w' := by
 obtain ⟨w0, rfl, hS⟩ := W0 w
 refine cT 28 func189 rfl (Af (Al (.bA rfl) rfl ?_))
 rintro _ w1 ⟨B3, rfl, NB3⟩
 replace hS := hS.Bn NB3
 refine Ay (Ay (Ao (Af (I (.lc rfl (hS.b0.agg)) (Ab rfl (Ab rfl (Al (.buildSlice (xs := ([0, 2] : List Int)) (enc := Br) (mk := vi) underlying34 sizeOf3 zeroValue3 rfl cQ (fun _ => rfl) (fun _ => rfl) (.ct rfl (.cu rfl)) rfl) rfl ?_)))))))
 rintro _ w2 ⟨B12, cB12, rfl, NB12, yB12, xB12⟩
 replace hS := hS.up NB12.up
 have hE12 := xB12
 refine A3 (eC (.u rfl rfl) (xK)) rfl (Wi sa wa sc wc s0 s1 s2 _ (hF.up hS.Cr) _ _ ([0, 2] : List Int) hE12 cQ cQ) ?_
 rintro _ w3 ⟨rfl, uw3⟩
 replace hS := hS.up uw3
 replace hE12 := hE12.up uw3
 refine I (.n1 rfl) (Ai (CW.f rfl (Aj (Ac (Af (I (.lc rfl (hS.b0.agg)) (Ab rfl (A3 (eC (.u rfl rfl) (xL)) rfl (aF sa wa sc wc s0 s1 s2 _ (hF.up hS.Cr)) ?_))))))))
 rintro _ w4 ⟨go, b1, b2, a, c, rfl, hEo, hBl, hEa, uw4⟩
 replace hS := hS.up uw4
 replace hE12 := hE12.up uw4
 obtain ⟨Bo, oo, ao, hco⟩ := hEo 2 (some b2) rfl
 cases ao
 refine Ab rfl (I (.Av (j := 2) underlying362 sizeOf361 (.t rfl) (.t rfl) cQ rfl) (I (.lb rfl (AggAt.nth (j := 0) hco rfl)) (LW.A rfl (Ao (Af (Ab rfl (I (.fa (Fx underlying361 (.t rfl)) (rfl)) (Ai (CW.f rfl (Aj (Ac (Af (Ab rfl (I (.nc rfl) (I (.fB 1 rfl) (I (.lb rfl (hBl.Ah rfl)) (A3 (eC (.o rfl) (sE)) rfl (Nx a c [1] _ hEa cQ) ?_)))))))))))))))))
 rintro v27 w5 ⟨hO27, uw5⟩
 replace hS := hS.up uw5
 replace hE12 := hE12.up uw5
 obtain ⟨ad, cp, rfl, hE27⟩ := hO27.sl (fun _ => rfl)
 refine LW.A rfl (Ay (Ai (Ak (Fu rfl rfl rfl ⟨_, rfl, ?_⟩))))
 exact ⟨_, _, rfl, hE27, hS.Cr⟩
theorem Xq (sa wa : Option Addr) (sc wc : Nat) (s0 s1 s2 : Sk) (w : World) (hF : FlE w sa wa s0 s1 s2) : Ret prog 190 #[.agg (Ki sa sc wa wc), vi 0, vi 2] w fun r w' => r = .tuple #[vi 14, .bool true] ∧ Up w w' := by
 obtain ⟨w0, rfl, hS⟩ := W0 w
 refine cT 27 func190 rfl (Af (Al (.bA rfl) rfl ?_))
 rintro _ w1 ⟨B3, rfl, NB3⟩
 replace hS := hS.Bn NB3
 refine Ay (Ay (Ao (Af (I (.lc rfl (hS.b0.agg)) (Ab rfl (Ab rfl (Al (.buildSlice (xs := ([0, 2] : List Int)) (enc := Br) (mk := vi) underlying34 sizeOf3 zeroValue3 rfl cQ (fun _ => rfl) (fun _ => rfl) (.ct rfl (.cu rfl)) rfl) rfl ?_)))))))
 rintro _ w2 ⟨B12, cB12, rfl, NB12, yB12, xB12⟩
 replace hS := hS.up NB12.up
 have hE12 := xB12
 refine A3 (eC (.u rfl rfl) (xK)) rfl (Wi sa wa sc wc s0 s1 s2 _ (hF.up hS.Cr) _ _ ([0, 2] : List Int) hE12 cQ cQ) ?_
 rintro _ w3 ⟨rfl, uw3⟩
 replace hS := hS.up uw3
 replace hE12 := hE12.up uw3
 refine I (.n1 rfl) (Ai (CW.f rfl (Aj (Ac (Af (I (.lc rfl (hS.b0.agg)) (Ab rfl (A3 (eC (.u rfl rfl) (xL)) rfl (aF sa wa sc wc s0 s1 s2 _ (hF.up hS.Cr)) ?_))))))))
 rintro _ w4 ⟨go, b1, b2, a, c, rfl, hEo, hBl, hEa, uw4⟩
 replace hS := hS.up uw4
 replace hE12 := hE12.up uw4
 obtain ⟨Bo, oo, ao, hco⟩ := hEo 2 (some b2) rfl
 cases ao
 refine Ab rfl (I (.Av (j := 2) underlying362 sizeOf361 (.t rfl) (.t rfl) cQ rfl) (I (.lb rfl (AggAt.nth (j := 0) hco rfl)) (LW.A rfl (Ao (Af (Ab rfl (I (.fa (Fx underlying361 (.t rfl)) (rfl)) (Ai (CW.f rfl (Aj (Ac (Af (Ab rfl (I (.nc rfl) (I (.fB 0 rfl) (I (.lb rfl (hBl.Ah rfl)) (LW.A rfl (Ay (Ai (Ak (Fu rfl rfl rfl ⟨_, rfl, ?_⟩)))))))))))))))))))))
 exact ⟨rfl, hS.Cr⟩
theorem aH (sa wa : Option Addr) (sc wc : Nat) (s0 s1 s2 : Sk) (w : World) (hF : FlE w sa wa s0 s1 s2) : Ret prog 97 #[.agg (Ki sa sc wa wc), .agg rS.cells] w fun r w' => ∃ ad cp, r = .tuple #[.agg (Qs 3 (.slice ad 3 cp)), .bool true] ∧ OwnS w' w.heap.size 3 1 Br (.slice ad 3 cp) [0, 1, 2] ∧ Up w w' := by
 obtain ⟨w0, rfl, hS⟩ := W0 w
 refine cT 51 func97 rfl (Af (Al (.bA rfl) rfl ?_))
 rintro _ w1 ⟨B2, rfl, NB2⟩
 replace hS := hS.Bn NB2
 refine Al (.bA rfl) rfl ?_
 rintro _ w2 ⟨B3, rfl, NB3⟩
 replace hS := hS.Bn NB3
 refine Al (.Bm zeroValue89) rfl ?_
 rintro _ w3 ⟨B4, rfl, NB4⟩
 replace hS := hS.Bn NB4
 refine Ay (Ao (Aa (I (.lc rfl (hS.b0.agg)) (I (.fB 0 rfl) (I (.lb rfl (hS.b1.Ah rfl)) (I (.fB 1 rfl) (I (.lb rfl (hS.b1.Ah rfl)) (A3 (eC (.ct rfl (.ct rfl (.cu rfl))) (DQ)) rfl (wS sa wa sc wc s0 s1 s2 _ (hF.up hS.Cr)) ?_))))))))
 rintro _ w4 ⟨ad16, cp16, rfl, hE16, uw4⟩
 replace hS := hS.up uw4
 refine Ab rfl (I (.xt rfl rfl) (I (.xt rfl rfl) (LW.A rfl (LW.A rfl (Ao (Af (Ab rfl (I (.fa (PEv.n1 rfl) (rfl)) (Ai (CW.f rfl (Aj (Ac (Am (Af (I (.lc rfl (hS.b0.agg)) (I (.fB 0 rfl) (I (.lb rfl (hS.b1.Ah rfl)) (I (.fB 1 rfl) (I (.lb rfl (hS.b1.Ah rfl)) (A3 (eC (.ct rfl (.ct rfl (.cu rfl))) (DR)) rfl (Xq sa wa sc wc s0 s1 s2 _ (hF.up hS.Cr)) ?_))))))))))))))))))))
 rintro _ w5 ⟨rfl, uw5⟩
 replace hS := hS.up uw5
 replace hE16 := hE16.up uw5
 refine Ab rfl (I (.xt rfl rfl) (I (.xt rfl rfl) (LW.A rfl (LW.A rfl (Ao (Aa (I (.fB 2 rfl) (I (.lb rfl (hS.b1.Ah rfl)) (Ab rfl (I (.tr (PEv.l2 rfl rfl) (rfl)) (Ai (CW.v rfl (Af (I (.fB 0 rfl) (I (.lb rfl (hS.b1.Ah rfl)) (Al (.buildSlice (xs := ([0] : List Int)) (enc := Br) (mk := vi) underlying34 sizeOf3 zeroValue3 rfl cQ (fun _ => rfl) (fun _ => rfl) (.cu rfl) rfl) rfl ?_))))))))))))))))
 rintro _ w6 ⟨B42, cB42, rfl, NB42, yB42, xB42⟩
 replace hS := hS.up NB42.up
 replace hE16 := hE16.up NB42.up
 have hE42 := xB42
 refine Ab rfl (I (.fB 1 rfl) (I (.lb rfl (hS.b1.Ah rfl)) (Al (.buildSlice (xs := ([2] : List Int)) (enc := Br) (mk := vi) underlying34 sizeOf3 zeroValue3 rfl cQ (fun _ => rfl) (fun _ => rfl) (.cu rfl) rfl) rfl ?_)))
 rintro _ w7 ⟨B46, cB46, rfl, NB46, yB46, xB46⟩
 replace hS := hS.up NB46.up
 replace hE16 := hE16.up NB46.up
 replace hE42 := hE42.up NB46.up
 have hE46 := xB46
 refine Al (.buildSlice (xs := ([⟨some ⟨B42, 0, none⟩, [0], 1⟩, ⟨ad16, [1], cp16⟩, ⟨some ⟨B46, 0, none⟩, [2], 1⟩] : List IL)) (enc := IL.cells) (mk := fun s => .slice s.ad s.l.length s.cp) underlying366 sizeOf34 zeroValue34 rfl cQ (fun _ => rfl) (fun _ => rfl) (.ct rfl (.ct rfl (.cu rfl))) rfl) rfl ?_
 rintro _ w8 ⟨B47, cB47, rfl, NB47, yB47, xB47⟩
 replace hS := hS.up NB47.up
 replace hE16 := hE16.up NB47.up
 replace hE42 := hE42.up NB47.up
 replace hE46 := hE46.up NB47.up
 have hE47 := xB47
 refine A3 (eC (.o rfl) (DS)) rfl (aG _ _ ([⟨some ⟨B42, 0, none⟩, [0], 1⟩, ⟨ad16, [1], cp16⟩, ⟨some ⟨B46, 0, none⟩, [2], 1⟩] : List IL) _ hE47 rfl (fun s hs => by simp only [List.mem_cons, List.mem_nil_iff, or_false] at hs; rcases hs with rfl | rfl | rfl <;> first | exact ⟨rfl, hE42⟩ | exact ⟨rfl, hE16⟩ | exact ⟨rfl, hE46⟩)) ?_
 rintro v48 w9 ⟨hO48, uw9⟩
 replace hE16 := hE16.up uw9
 replace hE42 := hE42.up uw9
 replace hE46 := hE46.up uw9
 replace hE47 := hE47.up uw9
 replace hS := hS.add uw9 (A' := J 3 1 Br v48 [0, 1, 2]) (hO48.mono (Nat.zero_le _)) (fun i h => hO48.base i h)
 obtain ⟨ad48, cp48, rfl, _⟩ := (hS.own 3 rfl).sl (fun _ => rfl)
 refine I (.build (cs := (Qs 3 (.slice ad48 3 cp48))) underlying89 zeroValue89 Ue (.cons (.const _) (.cu rfl)) rfl) (Be (.Bi sizeOf89 rfl (.t rfl) (.t rfl) (by simp [Qs, Value.oneCell']) hS.b2 rfl) ?_)
 intro w10 Nw10
 replace hS := hS.Cp 2 rfl Nw10
 skip
 skip
 skip
 skip
 refine Ay (Ai (Ak (Ap (rV rfl rfl rfl isAgg89 sizeOf89 rfl hS.b2.agg ⟨_, rfl, ?_⟩))))
 exact ⟨_, _, rfl, (hS.own 3 rfl).I9 (fun i h => (hS.foot 3 rfl i h).resolve_left (fun h => h)), hS.Cr⟩
theorem eE (sa wa : Option Addr) (sc wc : Nat) (s0 s1 s2 : Sk) (w : World) (hF : FlE w sa wa s0 s1 s2) : Ret prog 42 #[.agg (Ki sa sc wa wc)] w fun r w' => ∃ ad cp, r = .agg (Qs 3 (.slice ad 3 cp)) ∧ Els w' ad 1 Br [0, 1, 2] ∧ Up w w' := by
 obtain ⟨w0, rfl, hS⟩ := W0 w
 refine cT 28 func42 rfl (Af (Al (.bA rfl) rfl ?_))
 rintro _ w1 ⟨B1, rfl, NB1⟩
 replace hS := hS.Bn NB1
 refine Al (.Bm zeroValue89) rfl ?_
 rintro _ w2 ⟨B2, rfl, NB2⟩
 replace hS := hS.Bn NB2
 refine Ao (Af (I (.lc rfl (hS.b0.agg)) (A3 (eC (.o rfl) (CD)) rfl (T7 sa wa sc wc s0 s1 s2 _ (hF.up hS.Cr)) ?_)))
 rintro _ w3 ⟨rfl, uw3⟩
 replace hS := hS.up uw3
 refine I (.n1 rfl) (Ai (CW.f rfl (Aj (Ac (Am (Af (I (.fB 3 rfl) (I (.lb rfl (hS.b0.Ah rfl)) (I (.Di underlying82 (.t rfl)) (I (.move (.const _)) (Ai (An (A8 (σ := Nat) (fun s w => (s = 0) ∧ (Wx.Sep no w0 w [Cc B1 (Ki sa sc wa wc) 85, Cc B2 (Qs 0 (.slice none 0 0)) 89])) (fun s => [(14, .eq (vi (s : Int)))]) ([(1, .eq _), (2, .eq _), (12, .eq _), (13, .eq _)]) (fun s => 1 - s) 0 ?_ tQ ?_)))))))))))))
 ·exact ⟨rfl, hS⟩
 rintro k w4 ⟨hk, hS⟩
 subst hk
 refine Af (I (.tr (PEv.l2 rfl rfl) (rfl)) (Ao (CW.v rfl (Aj (Ac (Am (An (Am ?_))))))))
 obtain ⟨Bw, ow, aw_, hcw⟩ := hF.W 0 rS rfl
 refine Aa (I (.Av (j := 0) underlying82 sizeOf81 (.t rfl) (.t rfl) cQ aw_) (I (.lc rfl ((hcw.up hS.Cr))) (Al (.Bm zeroValue81) rfl ?_)))
 rintro _ w5 ⟨B4, rfl, MB4⟩
 refine Be (.Bi sizeOf81 rfl (.t rfl) (.t rfl) (Wn.one _) MB4.blk rfl) ?_
 intro w6 LB4
 have NB4 := MB4.set LB4
 replace hS := hS.Bn NB4
 refine Ao (Aa (I (.lc rfl (hS.b0.agg)) (I (.lc rfl (hS.b2.agg)) (A3 (eC (.u rfl rfl) (JE)) rfl (aH sa wa sc wc s0 s1 s2 _ (hF.up hS.Cr)) ?_))))
 rintro _ w7 ⟨ad21, cp21, rfl, hO21, uw7⟩
 replace hS := hS.add uw7 (A' := J 3 1 Br (.slice ad21 3 cp21) [0, 1, 2]) (hO21.mono (Nat.zero_le _)) (fun i h => hO21.base i h)
 refine Ab rfl (I (.xt rfl rfl) (I (.xt rfl rfl) (Al (.Bm zeroValue89) rfl ?_)))
 rintro _ w8 ⟨B5, rfl, MB5⟩
 refine Be (.Bi sizeOf89 rfl (.t rfl) (.t rfl) (by simp [Qs, Value.oneCell']) MB5.blk rfl) ?_
 intro w9 LB5
 have NB5 := MB5.set LB5
 replace hS := hS.Bn NB5
 refine LW.A rfl (Ao (Aa (Ab rfl (Ai (CW.v rfl (Af (I (.lc rfl (hS.b4.agg)) (Be (.Bi sizeOf89 rfl (.t rfl) (.t rfl) (by simp [Qs, Value.oneCell']) hS.b1 rfl) ?_))))))))
 intro w10 Nw10
 replace hS := hS.Cp 1 rfl Nw10
 refine Ai (Ak (A9 (Ap (Ap (A9 (Ap (E0 rfl rfl isAgg89 sizeOf89 rfl (hS.b1.agg) ⟨_, rfl, ?_⟩)))))))
 exact ⟨_, _, rfl, Db (hS.own 3 rfl) (fun _ => rfl), hS.Cr⟩
theorem Qt (v1 v2 : Value) (xs ys : List Int) (w : World) (h1 : Sl w v1 1 Br xs) (h2 : Sl w v2 1 Br ys) (hx0 : xs.length ≤ 1000000000) (hy0 : ys.length ≤ 1000000000) : Ret prog 14 #[v1, v2] w fun r w' => r = .bool (decide (xs = ys)) ∧ Up w w' := by
 have hW := Up.refl w
 obtain ⟨w0, rfl, _⟩ := W0 w
 obtain ⟨ad, cp, rfl, hE1⟩ := h1
 obtain ⟨ad', cp', rfl, hE2⟩ := h2
 refine cT 26 func14 rfl (Af (Ay (Ao (Af (Ab rfl (I (.Di underlying34 (.t rfl)) (Ab rfl (I (.Di underlying34 (.t rfl)) (I (.neq (.t rfl) (.t rfl)) (Ai (CW.b rfl (fun h10 => ?_) (fun h10 => ?_))))))))))))
 ·replace h10 := dQ h10
  have hr : decide (xs = ys) = false := decide_eq_false (fun h => by subst h; simp at h10)
  refine Af (Ay (Ai (Ak (Ap (KW.q ?_)))))
  exact ⟨by rw [hr], hW⟩
 replace h10 := dQ h10
 have hlen : xs.length = ys.length := Int.ofNat.inj (show Int.ofNat _ = Int.ofNat _ from (by simpa using h10 : (xs.length : Int) = ys.length))
 refine Aj (Ac (Am (Af (Ay (Ai (An (CW.loop (σ := Nat) (fun s w => (s ≤ xs.length ∧ xs.take s = ys.take s) ∧ Els w ad 1 Br xs ∧ Els w ad' 1 Br ys ∧ Up w0 w) (fun s => [(0, .eq (.slice ad xs.length cp)), (1, .eq (.slice ad' ys.length cp')), (5, .eq (vi (s : Int)))]) (fun s => xs.length - s) 0 ?_ ?_ ?_)))))))
 ·exact ⟨⟨Nat.zero_le _, rfl⟩, hE1, hE2, hW⟩
 ·exact tQ
 rintro k w1 ⟨⟨hk, hT⟩, hE1, hE2, hW⟩
 refine Am (Af (Ab rfl (Ab rfl (I (.Di underlying34 (.t rfl)) (I (.l2 rfl rfl) (Ai (CW.b rfl (fun h14 => ?_) (fun h14 => ?_))))))))
 ·replace h14 := dQ h14
  refine Aj (Ac (Am (An (Am ?_))))
  obtain ⟨x, hx⟩ := Au (xs := xs) (i := k) oQ
  obtain ⟨y, hy⟩ := Au (xs := ys) (i := k) oQ
  obtain ⟨B, o, had, hcell⟩ := hE1 k x hx
  obtain ⟨B', o', had', hcell'⟩ := hE2 k y hy
  refine C5 kQ kQ rfl rfl (U (.mv rfl) (U (.mv rfl) (U (.Av underlying34 sizeOf3 (.t rfl) (.t rfl) oQ had) (U (.lb rfl (hcell.nth (j := 0) rfl)) (U (.mv rfl) (U (.mv rfl) (U (.Av underlying34 sizeOf3 (.t rfl) (.t rfl) oQ had') (U (.lb rfl (hcell'.nth (j := 0) rfl)) (U (.neq (.t rfl) (.t rfl)) (HW.nil ?_))))))))))
  intro w2 uw2
  replace hE1 := hE1.up uw2
  replace hE2 := hE2.up uw2
  replace hW := hW.up uw2
  refine Ac (CW.b rfl (fun h25 => ?_) (fun h25 => ?_))
  ·replace h25 := dQ h25
   have hr : decide (xs = ys) = false := decide_eq_false (IF hx hy (by simpa using h25))
   refine Af (Ay (Ai (Ak (A9 (Ap (Ap (A9 (Ap (KW.q ?_)))))))))
   exact ⟨by rw [hr], hW⟩
  replace h25 := dQ h25
  refine Aj (Ae (Ac (Aa (Ab rfl (I (.ic rfl oQ) (LW.A rfl (LW.nil (Ar ?_))))))))
  exact ⟨k + 1, ⟨⟨by omega, wR hT hx hy (by simpa using h25)⟩, hE1, hE2, hW⟩, tQ, by omega⟩
 replace h14 := dQ h14
 have hr : decide (xs = ys) = true := decide_eq_true (by have := hT; rw [show k = xs.length by omega, List.take_length, hlen, List.take_length] at this; exact this)
 refine Bl (Ad (Ad (Aq (Ac (Af (Ay (Ai (Ak (KW.q ?_)))))))))
 exact ⟨by rw [hr], hW⟩
theorem aI (w : World) : Ret prog 199 #[.agg mC.cells] w fun r w' => r = .bool true ∧ Up w w' := by
 obtain ⟨w0, rfl, hS⟩ := W0 w
 refine cT 35 func199 rfl (Af (Al (.bA rfl) rfl ?_))
 rintro _ w1 ⟨B1, rfl, NB1⟩
 replace hS := hS.Bn NB1
 refine Ay (Ao (Af (I (.fB 0 rfl) (I (.lb rfl (hS.b0.Ah rfl)) (I (.fB 1 rfl) (I (.lb rfl (hS.b0.Ah rfl)) (A3 (eC (.ct rfl (.cons (.const _) (.cu rfl))) (U6)) rfl (Hp _ _ _ _) ?_)))))))
 rintro _ w2 ⟨rfl, uw2⟩
 replace hS := hS.up uw2
 refine I (.n1 rfl) (Ab rfl (LW.gr rfl (fun hc => PEv.fB 1 rfl) (LW.gr rfl (fun hc => PEv.load isAgg3 vQ (hS.b0.Ah rfl)) (LW.gr rfl (fun hc => PEv.gtr vQ (.const _)) (I (.fa (PEv.po rfl (fun hp => (by exact .cond rfl (by (rw [hp]; rfl))))) (rfl)) (Ai (CW.f rfl (Aj (Ac (Af (I (.fB 2 rfl) (I (.lc rfl ((iJ (ds := #[vi 1, vi 5]) (k := 2) hS.b0 (fun j hj => by match j, hj with | 0, _ => rfl | 1, _ => rfl)))) (I (.fB 1 rfl) (I (.lb rfl (hS.b0.Ah rfl)) (A3 (eC (.u rfl rfl) (xN)) rfl (T5 _ _ _ _ cQ) ?_)))))))))))))))
 rintro _ w3 ⟨rfl, uw3⟩
 replace hS := hS.up uw3
 refine Ab rfl (LW.gr rfl (fun hc => PEv.fB 4 rfl) (LW.gr rfl (fun hc => PEv.Gs isAgg92 sizeOf92 rfl vQ ((iJ (ds := #[vi 2, vi 29]) (k := 4) hS.b0 (fun j hj => by match j, hj with | 0, _ => rfl | 1, _ => rfl)))) (LW.gr rfl (fun hc => PEv.fB 1 rfl) (LW.gr rfl (fun hc => PEv.load isAgg3 vQ (hS.b0.Ah rfl)) (Rm rfl rfl rfl rfl rfl rfl rfl rfl (fun hc => Ci (.cons vQ (.cons vQ .nil)) (xN)) (fun hc => T5 _ _ _ _ cQ) ?_)))))
 intro w4 uw4
 replace hS := hS.up uw4
 refine I (.pa rfl (fun hp => (by exact .cond rfl (by assumption)))) (Ab rfl (LW.gr rfl (fun hc => PEv.fB 2 rfl) (LW.gr rfl (fun hc => PEv.fieldAddr (off := 0) underlying92 rfl rfl sizeOf3 rfl vQ) (LW.gr rfl (fun hc => PEv.load isAgg3 vQ (hS.b0.Ah rfl)) (LW.gr rfl (fun hc => PEv.fB 4 rfl) (LW.gr rfl (fun hc => PEv.fieldAddr (off := 0) underlying92 rfl rfl sizeOf3 rfl vQ) (LW.gr rfl (fun hc => PEv.load isAgg3 vQ (hS.b0.Ah rfl)) (LW.gr rfl (fun hc => PEv.neq vQ vQ) (I (.pa rfl (fun hp => (by exact .cond rfl (by assumption)))) (LW.A rfl (Ai (Ak (KW.q ?_)))))))))))))
 exact ⟨rfl, hS.Cr⟩
theorem eF (w : World) : Ret prog 198 #[.agg mC.cells] w fun r w' => r = .bool false ∧ Up w w' := by
 obtain ⟨w0, rfl, hS⟩ := W0 w
 refine cT 6 func198 rfl (Af (Al (.bA rfl) rfl ?_))
 rintro _ w1 ⟨B1, rfl, NB1⟩
 replace hS := hS.Bn NB1
 refine Ay (Ao (Aa (I (.lc rfl (hS.b0.agg)) (A3 (eC (.o rfl) (DZ)) rfl (aI _) ?_))))
 rintro _ w2 ⟨rfl, uw2⟩
 replace hS := hS.up uw2
 refine I (.n1 rfl) (LW.A rfl (Ai (Ak (KW.q ?_))))
 exact ⟨rfl, hS.Cr⟩
theorem eG (ad : Option Addr) (cp : Nat) (w : World) (hE : Els w ad 6 Sg.cells [mC]) : Ret prog 99 #[.agg (Qr ad cp)] w fun r w' => r = .bool true ∧ Up w w' := by
 obtain ⟨w0, rfl, hS⟩ := W0 w
 refine cT 48 func99 rfl (Af (Al (.bA rfl) rfl ?_))
 rintro _ w1 ⟨B1, rfl, NB1⟩
 replace hS := hS.Bn NB1
 refine Ay (Ao (Aa (I (.build (cs := (⟨-1, 0, 0⟩ : Wn).cells) underlying81 zeroValue81 Mp (.cons (.const _) .nil) rfl) (Al (.Bm zeroValue81) rfl ?_))))
 rintro _ w2 ⟨B3, rfl, MB3⟩
 refine Be (.Bi sizeOf81 rfl (.t rfl) (.t rfl) (Wn.one _) MB3.blk rfl) ?_
 intro w3 LB3
 have NB3 := MB3.set LB3
 replace hS := hS.Bn NB3
 refine Ao (Aa (I (.makeFunc (.ct rfl (.cu rfl))) (Al (.H6 zeroValue295 rfl) rfl ?_)))
 rintro _ w4 ⟨B4, rfl, MB4⟩
 refine Be (.store sizeOf295 (.t rfl) (.t rfl) rfl MB4.blk cQ) ?_
 intro w5 LB4
 have NB4 := MB4.set LB4
 replace hS := hS.Bn NB4
 refine Ao (An (Af (I (.fB 0 rfl) (I (.lb rfl (hS.b0.Ah rfl)) (A3 (eC (.ct rfl (.cons (.const _) (.cons (.const _) .nil))) (U6)) rfl (Hp _ _ _ _) ?_)))))
 rintro _ w6 ⟨rfl, uw6⟩
 replace hS := hS.up uw6
 refine I (.n1 rfl) (Ab rfl (LW.gr rfl (fun hc => PEv.fB 1 rfl) (LW.gr rfl (fun hc => PEv.load isAgg3 vQ (hS.b0.Ah rfl)) (LW.gr rfl (fun hc => PEv.fB 2 rfl) (LW.gr rfl (fun hc => PEv.load isAgg3 vQ (hS.b0.Ah rfl)) (Rm rfl rfl rfl rfl rfl rfl rfl rfl (fun hc => Ci (.cons vQ (.cons (.const _) (.cons vQ .nil))) (U6)) (fun hc => Hp _ _ _ _) ?_))))))
 intro w7 uw7
 replace hS := hS.up uw7
 refine LW.gr rfl (fun hc => PEv.not vQ) (I (.po rfl (fun hp => (by exact .cond rfl (by (rw [hp]; rfl))))) (Ab rfl (LW.gr rfl (fun hc => PEv.fB 2 rfl) (LW.gr rfl (fun hc => PEv.load isAgg3 vQ (hS.b0.Ah rfl)) (LW.gr rfl (fun hc => PEv.gtr vQ (.const _)) (I (.fa (PEv.po rfl (fun hp => (by exact .cond rfl (by (rw [hp]; rfl))))) (rfl)) (LW.A rfl (Ai (CW.f rfl (Af (I (.fB 3 rfl) (I (.lb rfl (hS.b0.Ah rfl)) (I (.Di underlying99 (.t rfl)) (A3 (eC (.ct rfl (.cons (.const _) (.cons (.const _) .nil))) (U6)) rfl (Hp _ _ _ _) ?_))))))))))))))
 rintro _ w8 ⟨rfl, uw8⟩
 replace hS := hS.up uw8
 refine I (.n1 rfl) (Ab rfl (LW.gr rfl (fun hc => PEv.fB 4 rfl) (LW.gr rfl (fun hc => PEv.load isAgg82 vQ (hS.b0.Ah rfl)) (LW.gr rfl (fun hc => PEv.Di underlying82 vQ) (LW.gr rfl (fun hc => PEv.gtr vQ (.const _)) (I (.fa (PEv.po rfl (fun hp => (by exact .cond rfl (by (rw [hp]; rfl))))) (rfl)) (LW.A rfl (Ai (CW.f rfl (Aj (Ae (Ac (Af (I (.fB 3 rfl) (I (.lb rfl (hS.b0.Ah rfl)) (A3 (eC (.ct rfl (.cons (.func _) .nil)) (DX)) rfl (Uw 198 #[] DY ad cp [mC] _ (Els.up hE hS.Cr) cQ (fun W u x hx => by rw [List.mem_singleton.1 hx]; exact eF W)) ?_))))))))))))))))
 rintro _ w9 ⟨rfl, uw9⟩
 replace hS := hS.up uw9
 refine I (.n1 rfl) (Ab rfl (Cb (I (.fB 4 rfl) (Cb (I (.lb rfl (hS.b0.Ah rfl)) (Cb (I (.makeFunc (.cu rfl)) (Cb (A3 (eC (.u rfl rfl) (EA)) rfl (Ux _ _ EB none 0 [] _ (fun i x h => by simp at h) cQ (fun W u x hx => by simp at hx)) ?_)))))))))
 rintro _ w10 ⟨rfl, uw10⟩
 replace hS := hS.up uw10
 refine Cb (I (.n1 rfl) (I (.pa rfl (fun hp => (by exact .tmp rfl))) (LW.A rfl (Ai (Ak (KW.q ?_))))))
 exact ⟨rfl, hS.Cr⟩
theorem aJ (B : Nat) (v : Go.Value) (L : List Int) (ov by_ : Int) (w : World) (hl : L.length ≤ 1000) (hsub : -1000000000 ≤ by_ - ov ∧ by_ - ov ≤ 1000000000) (hS0 : Wx.Sep (Cu [Cc B #[v] 293, J 3 1 Br (v) (L)]) w w [Cc B #[v] 293, J 3 1 Br (v) (L)]) : Ret prog 289 #[.pointer (some ⟨B, 0, none⟩), vi ov, vi by_] w fun _ w' => ∃ v', Wx.Sep (Cu [Cc B #[v] 293, J 3 1 Br (v) (L)]) w w' [Cc B #[v'] 293, J 3 1 Br (v') (L ++ [by_ - ov])] := by
 obtain ⟨w0, rfl, _⟩ := W0 w
 have hS := hS0
 refine cT 16 func289 rfl (Aa (Ab rfl (Ab rfl (I (.nc rfl) (I (.lb rfl (hS.b0.Ah rfl)) (Ab rfl (Ab rfl (I (.sub (.t rfl) (.t rfl) oQ oQ) (Al (.buildSlice (xs := [by_ - ov]) (enc := Br) (mk := vi) underlying293 sizeOf3 zeroValue3 rfl cQ (fun _ => rfl) (fun _ => rfl) (.cu rfl) rfl) rfl ?_)))))))))
 rintro _ w1 ⟨B13, cB13, rfl, NB13, yB13, xB13⟩
 replace hS := hS.up NB13.up
 have hE13 := xB13
 refine Al (.C2 (enc := Br) (bytes := 8) (i := Tryz.t3) underlying293 kQ rfl rfl rfl rfl cQ (fun _ => rfl) Hx (.t rfl) (.t rfl) (hS.own 1 rfl) (Aw hE13) (by simp [maxLen]; omega) (by simp; omega)) rfl ?_
 intro v14 w2 Gw2
 replace hS := hS.Ez 1 rfl Gw2
 refine I (.nc rfl) (Be (.store sizeOf293 (.t rfl) (.t rfl) (hS.own 1 rfl).one hS.b0 bQ) ?_)
 intro w3 Nw3
 replace hS := hS.Cp 0 rfl Nw3
 refine LW.nil (C7 rfl ⟨_, rfl, ?_⟩)
 exact ⟨_, hS⟩
theorem aK (n : Int) (w : World) (hn : 0 ≤ n) : Ret prog 291 #[vi n] w fun r w' => r = .bool false ∧ Up w w' := by
 have hW := Up.refl w
 refine cT 5 func291 rfl (Af (Ay (Ao (Aa (Ab rfl (I (.fa (PEv.lss (.t rfl) (.const _)) (decide_eq_false oQ)) (LW.A rfl (Ai (Ak (KW.q ?_))))))))))
 exact ⟨rfl, hW⟩
theorem T8 (ad : Option Addr) (cp : Nat) (l : List Int) (w : World) (hE : Els w ad 1 Br l) (hl : l.length ≤ 1000) (hn : ∀ x ∈ l, 0 ≤ x) : Ret prog 193 #[.slice ad l.length cp] w fun r w' => r = .bool false ∧ Up w w' := by
 have hW := Up.refl w
 refine cT 5 func193 rfl (Af (Ay (Ao (Aa (Ab rfl (A3 (eC (.ct rfl (.cons (.func _) .nil)) (FH)) rfl (Uy 291 #[] FI ad cp l _ (Els.up hE hW) oQ (fun W u x hx => aK x W (hn x hx))) ?_))))))
 rintro _ w1 ⟨rfl, uw1⟩
 replace hW := hW.up uw1
 refine LW.A rfl (Ai (Ak (KW.q ?_)))
 exact ⟨rfl, hW⟩
theorem lX (ad : Option Addr) (cp : Nat) (w : World) (hE : Els w ad 6 Sg.cells [mC]) : Ret prog 192 #[.agg (Qr ad cp)] w fun r w' => Sl w' r 1 Br [0, 0] ∧ Up w w' := by
 obtain ⟨w0, rfl, hS⟩ := W0 w
 refine cT 91 func192 rfl (Af (Al (.bA rfl) rfl ?_))
 rintro _ w1 ⟨B1, rfl, NB1⟩
 replace hS := hS.Bn NB1
 refine Al (.H6 zeroValue293 rfl) rfl ?_
 rintro _ w2 ⟨B2, rfl, NB2⟩
 replace hS := hS.Bn NB2
 refine Ao ?_
 replace hS := hS.Ye (OwnS.nil _ 0 3 1 Br)
 obtain ⟨Bs, os, as_, hcs⟩ := hE 0 mC rfl
 refine Ew 11 kQ kQ kQ kQ kQ rfl rfl (U (.fB 0 rfl) (U (.lb rfl (hS.b0.Ah rfl)) (U (.fB 2 rfl) (U (.lb rfl (hS.b0.Ah rfl)) (U (.add (.t rfl) (.t rfl) oQ oQ) (U (.fB 3 rfl) (U (.lb rfl (hS.b0.Ah rfl)) (U (.Av underlying99 sizeOf94 (j := 0) (.t rfl) (.const _) cQ as_) (U (.fB 2 rfl) (U (.fB 1 rfl) (U (.lb rfl (((hcs.up hS.Cr).nth (j := 3) rfl))) (HW.nil ?_))))))))))))
 intro w3 uw3
 replace hS := hS.up uw3
 replace hS := hS.Ec 1 rfl
 replace hS := hS.Ec 1 rfl
 have hq_ := (show Wx.Sep _ _ _ ([_] ++ [_, _]) from hS)
 refine A3 (eC (.ct rfl (.ct rfl (.cu rfl))) (xM)) rfl (aJ B2 _ _ _ _ _ cQ cQ hq_.right.self) ?_
 rintro _ w4 ⟨v18, uw4⟩
 replace hS := hq_.frame uw4
 refine Ao (Af (I (.fB 3 rfl) (I (.lb rfl (hS.b0.Ah rfl)) (I (.Di underlying99 (.t rfl)) (I (.move (.const _)) (Ai (An (A8 (σ := Nat) (fun s w => (s = 0) ∧ (Wx.Sep no w0 w [Cc B1 (Qr ad cp) 101, Cc B2 #[v18] 293, J 3 1 Br v18 ([] ++ [5 - (0 + 5)])])) (fun s => [(22, .eq (vi (s : Int)))]) ([(1, .eq _), (2, .eq _), (20, .eq _), (21, .eq _)]) (fun s => 1 - s) 0 ?_ tQ ?_))))))))
 ·exact ⟨rfl, hS⟩
 rintro k w5 ⟨hk, hS⟩
 subst hk
 refine Af (I (.tr (PEv.l2 rfl rfl) (rfl)) (Ao (CW.v rfl (Aj (Ac (Am (An (Af (Ab rfl (I (.Av underlying99 sizeOf94 (j := 0) (.t rfl) (.t rfl) cQ as_) (I (.lc rfl ((hcs.up hS.Cr))) (Al (.Bm zeroValue94) rfl ?_))))))))))))
 rintro _ w6 ⟨B4, rfl, MB4⟩
 refine LW.A rfl (Be (.Bi sizeOf94 rfl (.t rfl) (.t rfl) (Sg.one _) MB4.blk rfl) ?_)
 intro w7 LB4
 have NB4 := MB4.set LB4
 replace hS := hS.Bn NB4
 refine Ao ?_
 have hs1 : mC.s1 = 5 := rfl
 have hs2 : mC.mx = 20 := rfl
 refine Aa (I (.fB 2 rfl) (I (.fB 1 rfl) (I (.lb rfl (hS.b3.Ah rfl)) (I (.fB 1 rfl) (I (.lb rfl (hS.b3.Ah rfl)) (I (.add (.t rfl) (.t rfl) oQ oQ) (I (.sub (.t rfl) (.const _) oQ oQ) (I (.fB 2 rfl) (I (.lb rfl (hS.b0.Ah rfl)) (I (.add (.t rfl) (.t rfl) oQ oQ) (I (.fB 4 rfl) (I (.fB 1 rfl) (I (.lb rfl (hS.b3.Ah rfl)) ?_)))))))))))))
 replace hS := hS.Ec 1 rfl
 replace hS := hS.Ec 1 rfl
 have hq_ := (show Wx.Sep _ _ _ ([_, _] ++ [_, _]) from hS)
 refine A3 (eC (.ct rfl (.ct rfl (.cu rfl))) (xM)) rfl (aJ B2 _ _ _ _ _ cQ cQ hq_.right.self) ?_
 rintro _ w8 ⟨v40, uw8⟩
 replace hS := hq_.frame uw8
 refine Ao (Af (Ab rfl (I (.ic rfl oQ) (I (.fB 3 rfl) (I (.lb rfl (hS.b0.Ah rfl)) (I (.Di underlying99 (.t rfl)) (I (.tr (PEv.eql (.t rfl) (.t rfl)) (rfl)) (Ai (CW.v rfl (Bl (Ad (Jt cQ (Ad (Ad (Aq (Ac (Af (I (.lb rfl (hS.b2.Ah rfl)) (Be (.store sizeOf293 (.t rfl) (.t rfl) (hS.own 3 rfl).one hS.b2 bQ) ?_)))))))))))))))))))
 intro w9 Nw9
 replace hS := hS.Cp 2 rfl Nw9
 refine Ai (Ak (iK rfl rfl isAgg293 (hS.b2.Ah rfl) ⟨_, rfl, ?_⟩))
 exact ⟨(hS.own 3 rfl).sl (fun _ => rfl), hS.Cr⟩
theorem rW (ad : Option Addr) (cp : Nat) (w : World) : Ret prog 194 #[.agg (Qr ad cp)] w fun r w' => r = .slice none 0 0 ∧ Up w w' := by
 obtain ⟨w0, rfl, hS⟩ := W0 w
 refine cT 39 func194 rfl (Af (Al (.bA rfl) rfl ?_))
 rintro _ w1 ⟨B1, rfl, NB1⟩
 replace hS := hS.Bn NB1
 refine Al (.H6 zeroValue293 rfl) rfl ?_
 rintro _ w2 ⟨B2, rfl, NB2⟩
 replace hS := hS.Bn NB2
 refine Ao (Af (I (.fB 4 rfl) (I (.lb rfl (hS.b0.Ah rfl)) (I (.Di underlying82 (.t rfl)) (I (.move (.const _)) (Ai (An (A8 (σ := Nat) (fun s w => (s = 0) ∧ (Wx.Sep no w0 w [Cc B1 (Qr ad cp) 101, Cc B2 #[.slice none 0 0] 293])) (fun s => [(9, .eq (vi (s : Int)))]) ([(1, .eq _), (2, .eq _), (7, .eq _), (8, .eq _)]) (fun s => 1 - s) 0 ?_ tQ ?_))))))))
 ·exact ⟨rfl, hS⟩
 rintro k w3 ⟨hk, hS⟩
 subst hk
 refine Af (I (.fa (PEv.l2 rfl rfl) (rfl)) (Ao (CW.f rfl (Bl (Ad (Ad (Aq (Ac (Af (I (.lb rfl (hS.b1.Ah rfl)) (Be (.store sizeOf293 (.t rfl) (.t rfl) rfl hS.b1 bQ) ?_)))))))))))
 intro w4 Nw4
 replace hS := hS.Cp 1 rfl Nw4
 refine Ai (Ak (iK rfl rfl isAgg293 (hS.b1.Ah rfl) ⟨_, rfl, ?_⟩))
 exact ⟨rfl, hS.Cr⟩
theorem eH (ad : Option Addr) (cp : Nat) (w : World) (hE : Els w ad 6 Sg.cells [mC]) : Ret prog 98 #[.agg (Qr ad cp)] w fun r w' => r = .bool true ∧ Up w w' := by
 obtain ⟨w0, rfl, hS⟩ := W0 w
 refine cT 17 func98 rfl (Af (Al (.bA rfl) rfl ?_))
 rintro _ w1 ⟨B1, rfl, NB1⟩
 replace hS := hS.Bn NB1
 refine Ay (Ao (Aa (I (.lc rfl (hS.b0.agg)) (A3 (eC (.o rfl) (JG)) rfl (eG ad cp _ (Els.up hE hS.Cr)) ?_))))
 rintro _ w2 ⟨rfl, uw2⟩
 replace hS := hS.up uw2
 refine Ab rfl (Cb (I (.lc rfl (hS.b0.agg)) (Cb (A3 (eC (.o rfl) (DT)) rfl (lX ad cp _ (Els.up hE hS.Cr)) ?_))))
 rintro _ w3 ⟨⟨ad7, cp7, rfl, hE7⟩, uw3⟩
 replace hS := hS.up uw3
 refine Cb (A3 (eC (.o rfl) (xD)) rfl (T8 _ _ [0, 0] _ hE7 cQ cQ) ?_)
 rintro _ w4 ⟨rfl, uw4⟩
 replace hS := hS.up uw4
 refine Cb (I (.n1 rfl) (I (.pa rfl (fun hp => (by exact .tmp rfl))) (Ab rfl (Cb (I (.lc rfl (hS.b0.agg)) (Cb (A3 (eC (.o rfl) (DU)) rfl (rW ad cp _) ?_)))))))
 rintro _ w5 ⟨rfl, uw5⟩
 replace hS := hS.up uw5
 refine Cb (A3 (eC (.o rfl) (xD)) rfl (T8 none 0 [] _ (fun i x h => by simp at h) cQ cQ) ?_)
 rintro _ w6 ⟨rfl, uw6⟩
 replace hS := hS.up uw6
 refine Cb (I (.n1 rfl) (I (.pa rfl (fun hp => (by exact .tmp rfl))) (LW.A rfl (Ai (Ak (KW.q ?_))))))
 exact ⟨rfl, hS.Cr⟩
theorem lY (ad : Option Addr) (cp : Nat) (w : World) (hE : Els w ad 6 Sg.cells [mC]) : Ret prog 43 #[.agg (Qr ad cp)] w fun r w' => ∃ sc : Array Go.Value, sc.size = 5 ∧ sc.all (·.oneCell') = true ∧ r = .tuple #[.agg sc, .bool true] ∧ Up w w' := by
 obtain ⟨w0, rfl, hS⟩ := W0 w
 refine Gz (n := 28) func43 rfl rfl rfl (Af (Al (.bA rfl) rfl ?_))
 rintro _ w1 ⟨B1, rfl, NB1⟩
 replace hS := hS.Bn NB1
 refine Al (.Bm zeroValue96) rfl ?_
 rintro _ w2 ⟨B2, rfl, NB2⟩
 replace hS := hS.Bn NB2
 refine Al (.H6 zeroValue4 rfl) rfl ?_
 rintro _ w3 ⟨B3, rfl, NB3⟩
 replace hS := hS.Bn NB3
 refine Ao (Af (I (.lc rfl (hS.b0.agg)) (A3 (eC (.o rfl) (JF)) rfl (eH ad cp _ (Els.up hE hS.Cr)) ?_)))
 rintro _ w4 ⟨rfl, uw4⟩
 replace hS := hS.up uw4
 refine Ai (CW.v rfl (Af (I (.build (cs := #[.slice none 0 0, .slice none 0 0, vi 0, vi 0, vi 0]) underlying96 zeroValue96 Ug .nil rfl) (Be (.Bi sizeOf96 rfl (.t rfl) (.t rfl) (by simp [Value.oneCell']) hS.b1 rfl) ?_))))
 intro w5 Nw5
 replace hS := hS.Cp 1 rfl Nw5
 refine Be (.store sizeOf4 (.t rfl) (.const _) rfl hS.b2 bQ) ?_
 intro w6 Nw6
 replace hS := hS.Cp 2 rfl Nw6
 refine Ai (Ak (Ap (Rr (Xx rfl rfl rfl isAgg96 sizeOf96 rfl hS.b1.agg isAgg4 (hS.b2.Ah rfl) ⟨_, rfl, ?_⟩))))
 exact ⟨_, rfl, by simp [Value.oneCell'], rfl, hS.Cr⟩
theorem lZ (w : World) : Ret prog 6 #[] w fun r w' => r = .bool true ∧ Up w w' := by
 obtain ⟨w0, rfl, hS⟩ := W0 w
 refine cT 54 func6 rfl (Af (Ay (Ao (Aa (I (.build (cs := rS.cells) underlying81 zeroValue81 Mp (.cons (.const _) (.cons (.const _) (.cons (.const _) .nil))) rfl) (Al (.buildSlice (xs := ([rS] : List Wn)) (enc := Wn.cells) (mk := fun x => .agg x.cells) underlying82 sizeOf81 zeroValue81 rfl cQ (fun _ => rfl) (fun _ => rfl) (.cu rfl) rfl) rfl ?_))))))
 intro v9 w1 hN9
 obtain ⟨uw1, B9, rfl, e9, hO9⟩ := NewSl.own hN9 (fun _ => rfl) cQ (by simp [maxLen])
 replace hS := hS.add uw1 (A' := J 81 3 Wn.cells (.slice (some ⟨B9, 0, none⟩) 1 1) ([rS] : List Wn)) hO9 (fun i h => by cases h; exact Nat.le_of_eq e9.symm)
 refine I (.build (cs := #[vi 2, vi 5, .slice none 0 0, .slice (some ⟨B9, 0, none⟩) 1 1]) underlying85 zeroValue85 Uc (.cons (.const _) (.cons (.const _) (.cu rfl))) rfl) (Al (.Bm zeroValue85) rfl ?_)
 rintro _ w2 ⟨B1, rfl, MB1⟩
 refine Be (.Bi sizeOf85 rfl (.t rfl) (.t rfl) (by simp [Value.oneCell']) MB1.blk rfl) ?_
 intro w3 LB1
 have NB1 := MB1.set LB1
 replace hS := hS.Bn NB1
 refine Ao (Am ?_)
 replace hS := hS.Ye (OwnS.nil _ 0 87 7 Sk.cells)
 replace hS := hS.add (Up.refl _) (A' := Dt (([] : List Sk).flatMap (wO 3))) ⟨fun A h => by simp at h, List.Pairwise.nil⟩ (fun i h => by obtain ⟨A, h, _⟩ := h; simp at h)
 refine Aa (Ay (Ai (An (A8 (σ := Nat × Go.Value × List Sk) (fun s w => (s.1 ≤ 3) ∧ (StQ s.2.2 s.1) ∧ (Wx.Sep no w0 w [J 81 3 Wn.cells (.slice (some ⟨B9, 0, none⟩) 1 1) [rS], Cc B1 #[vi 2, vi 5, s.2.1, .slice (some ⟨B9, 0, none⟩) 1 1] 85, J 87 7 Sk.cells s.2.1 s.2.2, Dt (s.2.2.flatMap (wO 3))])) (fun s => [(2, .eq (vi (s.1 : Int)))]) ([(0, .eq _), (1, .eq _)]) (fun s => 3 - s.1) (0, .slice none 0 0, []) ?_ tQ ?_))))
 ·exact ⟨Nat.zero_le _, StQ.nil, hS⟩
 rintro ⟨k, v, L⟩ w4 ⟨hk, hL, hS⟩
 dsimp only at hk hL hS
 change CW _ _ _ _ _ _ _ ([(2, .eq (vi (k : Int)))] ++ _) _
 refine Am (Af (Ab rfl (I (.lss (.t rfl) (.const _)) (Ai (CW.b rfl (fun h12 => ?_) (fun h12 => ?_))))))
 ·replace h12 := dQ h12
  refine Aj (Ac (Am (An (Am ?_))))
  have hk3 : k < 3 := Int.ofNat_lt.1 h12
  refine Aa (Ab rfl (Al (.buildSlice (xs := ([(k : Int)] : List Int)) (enc := Br) (mk := vi) underlying34 sizeOf3 zeroValue3 rfl cQ (fun _ => rfl) (fun _ => rfl) (.cu rfl) rfl) rfl ?_))
  intro v16 w5 hN16
  obtain ⟨uw5, B16, rfl, e16, hO16⟩ := NewSl.own hN16 (fun _ => rfl) cQ (by simp [maxLen])
  replace hS := hS.add uw5 (A' := J 3 1 Br (.slice (some ⟨B16, 0, none⟩) 1 1) ([(k : Int)] : List Int)) hO16 (fun i h => by cases h; exact Nat.le_of_eq e16.symm)
  refine I (.build (cs := (⟨1, [(k : Int)], some ⟨B16, 0, none⟩, 1, 10, 20, [], none, 0, -1, 0⟩ : Sk).cells) underlying87 zeroValue87 Ud (.cons (.const _) (.ct rfl (.cons (.const _) (.cons (.const _) (.cons (.const _) .nil))))) rfl) (Al (.Bm zeroValue87) rfl ?_)
  rintro _ w6 ⟨B3, rfl, MB3⟩
  refine Be (.Bi sizeOf87 rfl (.t rfl) (.t rfl) (Sk.one _) MB3.blk rfl) ?_
  intro w7 LB3
  have NB3 := MB3.set LB3
  replace hS := hS.Bn NB3
  refine Ao (Af (Ab rfl (I (.lss (.t rfl) (.const _)) (Ai (CW.b rfl (fun h19 => ?_) (fun h19 => ?_))))))
  ·replace h19 := dQ h19
   have hnx : [(k : Int) + 1] = wN k := by unfold wN; rw [if_pos (by omega)]
   refine Aa (Ab rfl (I (.add (.t rfl) (.const _) oQ oQ) (Al (.buildSlice (xs := ([(k : Int) + 1] : List Int)) (enc := Br) (mk := vi) underlying34 sizeOf3 zeroValue3 rfl cQ (fun _ => rfl) (fun _ => rfl) (.cu rfl) rfl) rfl ?_)))
   intro v22 w8 hN22
   obtain ⟨uw8, B22, rfl, e22, hO22⟩ := NewSl.own hN22 (fun _ => rfl) cQ (by simp [maxLen])
   replace hS := hS.add uw8 (A' := J 3 1 Br (.slice (some ⟨B22, 0, none⟩) 1 1) ([(k : Int) + 1] : List Int)) hO22 (fun i h => by cases h; exact Nat.le_of_eq e22.symm)
   refine I (.fB 4 rfl) (Be (.store sizeOf34 (.t rfl) (.t rfl) rfl hS.b5 bQ) ?_)
   intro w9 Nw9
   replace hS := hS.Cp 5 rfl (show Set_ _ w9 _ ((⟨1, [(k : Int)], some ⟨B16, 0, none⟩, 1, 10, 20, [(k : Int) + 1], some ⟨B22, 0, none⟩, 1, -1, 0⟩ : Sk).cells) _ from Nw9)
   refine Ai (Aa (I (.fB 2 rfl) (I (.lb rfl (hS.b1.Ah rfl)) (I (.lc rfl (hS.b5.agg)) (Al (.buildSlice (xs := [(⟨1, [(k : Int)], some ⟨B16, 0, none⟩, 1, 10, 20, [(k : Int) + 1], some ⟨B22, 0, none⟩, 1, -1, 0⟩ : Sk)]) (enc := Sk.cells) (mk := fun s => .agg s.cells) underlying83 sizeOf87 zeroValue87 rfl cQ (fun _ => rfl) (fun _ => rfl) (.cu rfl) rfl) rfl ?_)))))
   rintro _ w10 ⟨B27, cB27, rfl, NB27, yB27, xB27⟩
   replace hS := hS.up NB27.up
   have hE27 := xB27
   refine Al (.C2 (enc := Sk.cells) (bytes := 88) (i := Tryz.t87) underlying83 kQ rfl rfl rfl rfl cQ (fun _ => rfl) Sk.one (.t rfl) (.t rfl) (hS.own 2 rfl) (Aw hE27) (by rw [hL.len]; simp [maxLen]; omega) (by rw [hL.len]; simp; omega)) rfl ?_
   intro v28 w11 Gw11
   replace hS := hS.Ez 2 rfl Gw11
   refine I (.fB 2 rfl) (Be (.store sizeOf83 (.t rfl) (.t rfl) (hS.own 2 rfl).one hS.b1 bQ) ?_)
   intro w12 Nw12
   replace hS := hS.Cp 1 rfl (show Set_ _ w12 _ (#[vi 2, vi 5, v28, .slice (some ⟨B9, 0, none⟩) 1 1]) _ from Nw12)
   refine LW.nil (Ae (Ac (Aa (Ab rfl (I (.ic rfl oQ) (LW.A rfl (LW.nil (Ar ?_))))))))
   exact ⟨(k + 1, v28, L ++ [(⟨1, [(k : Int)], some ⟨B16, 0, none⟩, 1, 10, 20, [(k : Int) + 1], some ⟨B22, 0, none⟩, 1, -1, 0⟩ : Sk)]), ⟨by show k + 1 ≤ 3; omega, hL.snoc (iM hk3 _ _ _ _ _ hnx) hnx, iN (Bs := [_, _, _]) (s := (⟨1, [(k : Int)], some ⟨B16, 0, none⟩, 1, 10, 20, [(k : Int) + 1], some ⟨B22, 0, none⟩, 1, -1, 0⟩ : Sk)) (hS.sub (.cons_cons _ (.cons_cons _ (.cons_cons _ (.cons_cons _ (.cons_cons _ (.cons _ (.cons_cons _ .slnil))))))))⟩, tQ, by show 3 - (k + 1) < 3 - k; omega⟩
  replace h19 := dQ h19
  have hnx : ([] : List Int) = wN k := by unfold wN; rw [if_neg (by omega)]
  refine Aj (Ac (Aa (I (.fB 2 rfl) (I (.lb rfl (hS.b1.Ah rfl)) (I (.lc rfl (hS.b5.agg)) (Al (.buildSlice (xs := [(⟨1, [(k : Int)], some ⟨B16, 0, none⟩, 1, 10, 20, [], none, 0, -1, 0⟩ : Sk)]) (enc := Sk.cells) (mk := fun s => .agg s.cells) underlying83 sizeOf87 zeroValue87 rfl cQ (fun _ => rfl) (fun _ => rfl) (.cu rfl) rfl) rfl ?_))))))
  rintro _ w13 ⟨B27, cB27, rfl, NB27, yB27, xB27⟩
  replace hS := hS.up NB27.up
  have hE27 := xB27
  refine Al (.C2 (enc := Sk.cells) (bytes := 88) (i := Tryz.t87) underlying83 kQ rfl rfl rfl rfl cQ (fun _ => rfl) Sk.one (.t rfl) (.t rfl) (hS.own 2 rfl) (Aw hE27) (by rw [hL.len]; simp [maxLen]; omega) (by rw [hL.len]; simp; omega)) rfl ?_
  intro v28 w14 Gw14
  replace hS := hS.Ez 2 rfl Gw14
  refine I (.fB 2 rfl) (Be (.store sizeOf83 (.t rfl) (.t rfl) (hS.own 2 rfl).one hS.b1 bQ) ?_)
  intro w15 Nw15
  replace hS := hS.Cp 1 rfl (show Set_ _ w15 _ (#[vi 2, vi 5, v28, .slice (some ⟨B9, 0, none⟩) 1 1]) _ from Nw15)
  refine LW.nil (Ae (Ac (Aa (Ab rfl (I (.ic rfl oQ) (LW.A rfl (LW.nil (Ar ?_))))))))
  exact ⟨(k + 1, v28, L ++ [(⟨1, [(k : Int)], some ⟨B16, 0, none⟩, 1, 10, 20, [], none, 0, -1, 0⟩ : Sk)]), ⟨by show k + 1 ≤ 3; omega, hL.snoc (iM hk3 _ _ _ _ _ hnx) hnx, iN (Bs := [_, _, _]) (s := (⟨1, [(k : Int)], some ⟨B16, 0, none⟩, 1, 10, 20, [], none, 0, -1, 0⟩ : Sk)) ((hS.Ye (OwnS.nil _ 0 3 1 Br)).sub (.cons_cons _ (.cons_cons _ (.cons_cons _ (.cons_cons _ (.cons_cons _ (.cons _ (.cons_cons _ .slnil))))))))⟩, tQ, by show 3 - (k + 1) < 3 - k; omega⟩
 replace h12 := dQ h12
 refine Bl (Ad (Ad (Aq (Ac (Am ?_)))))
 have hk3 : k = 3 := by have : ¬ k < 3 := fun h => h12 (Int.ofNat_lt.2 h); omega
 subst hk3
 obtain ⟨s0, s1, s2, rfl⟩ := hL.three
 obtain ⟨sa, sc, rfl, _⟩ := (hS.own 2 rfl).sl (fun _ => rfl)
 have hF := FlE.of hL (hS.own 2 rfl) (hS.own 0 rfl) (hS.get 3 rfl)
 refine Aa (I (.lc rfl (hS.b1.agg)) (A3 (eC (.o rfl) (IR)) rfl (eE sa (some ⟨B9, 0, none⟩) sc 1 s0 s1 s2 _ hF) ?_))
 rintro _ w16 ⟨ad31, cp31, rfl, hE31, uw16⟩
 replace hS := hS.up uw16
 refine Al (.Bm zeroValue89) rfl ?_
 rintro _ w17 ⟨B4, rfl, MB4⟩
 refine Be (.Bi sizeOf89 rfl (.t rfl) (.t rfl) (by simp [Qs, Value.oneCell']) MB4.blk rfl) ?_
 intro w18 LB4
 have NB4 := MB4.set LB4
 replace hE31 := hE31.up NB4.up
 replace hS := hS.Bn NB4
 refine Ao (Aa (I (.build (cs := #[vi 1, vi 5]) underlying92 zeroValue92 Mq (.cons (.const _) (.cons (.const _) .nil)) rfl) (I (.build (cs := #[vi 2, vi 29]) underlying92 zeroValue92 Mq (.cons (.const _) (.cons (.const _) .nil)) rfl) (I (.build (cs := mC.cells) underlying94 zeroValue94 Uf (.cons (.const _) (.cons (.const _) (.ct rfl (.cu rfl)))) kQ) (Al (.Bm zeroValue94) rfl ?_)))))
 rintro _ w19 ⟨B5, rfl, MB5⟩
 refine Be (.Bi sizeOf94 rfl (.t rfl) (.t rfl) (Sg.one _) MB5.blk rfl) ?_
 intro w20 LB5
 have NB5 := MB5.set LB5
 replace hE31 := hE31.up NB5.up
 replace hS := hS.Bn NB5
 refine Ao (Aa (I (.lc rfl (hS.b5.agg)) (Al (.buildSlice (xs := [mC]) (enc := Sg.cells) (mk := fun s => .agg s.cells) underlying99 sizeOf94 zeroValue94 rfl cQ (fun _ => rfl) (fun _ => rfl) (.cu rfl) rfl) rfl ?_)))
 rintro _ w21 ⟨B37, cB37, rfl, NB37, yB37, xB37⟩
 replace hS := hS.up NB37.up
 replace hE31 := hE31.up NB37.up
 have hE37 := xB37
 refine I (.build (cs := (Qr (some ⟨B37, 0, none⟩) 1)) underlying101 zeroValue101 Rx (.cons (.const _) (.cons (.const _) (.cu rfl))) rfl) (A3 (eC (.o rfl) (IS)) rfl (lY (some ⟨B37, 0, none⟩) 1 _ hE37) ?_)
 rintro _ w22 ⟨sc39, hsz, hone, rfl, uw22⟩
 replace hS := hS.up uw22
 replace hE31 := hE31.up uw22
 refine Ab rfl (I (.xt rfl rfl) (I (.xt rfl rfl) (Al (.Bm zeroValue96) rfl ?_)))
 rintro _ w23 ⟨B6, rfl, MB6⟩
 refine Be (.Bi sizeOf96 hsz (.t rfl) (.t rfl) hone MB6.blk rfl) ?_
 intro w24 LB6
 have NB6 := MB6.set LB6
 replace hE31 := hE31.up NB6.up
 replace hS := hS.Bn NB6
 refine LW.A rfl (Ao (Aa (I (.fB 0 rfl) (I (.lb rfl (hS.b4.Ah rfl)) (I (.tr (PEv.eql (.t rfl) (.const _)) (rfl)) (Ab rfl (Cb (I (.fB 1 rfl) (Cb (I (.lb rfl (hS.b4.Ah rfl)) (Cb (Al (.buildSlice (xs := ([0, 1, 2] : List Int)) (enc := Br) (mk := vi) underlying34 sizeOf3 zeroValue3 rfl cQ (fun _ => rfl) (fun _ => rfl) (.cons (.const _) (.cons (.const _) (.cons (.const _) .nil))) rfl) rfl ?_))))))))))))
 rintro _ w25 ⟨B48, cB48, rfl, NB48, yB48, xB48⟩
 replace hS := hS.up NB48.up
 replace hE31 := hE31.up NB48.up
 have hE48 := xB48
 refine Cb (A3 (eC (.u rfl rfl) (BX)) rfl (Qt _ _ [0, 1, 2] [0, 1, 2] _ (Aw hE31) (Aw hE48) cQ cQ) ?_)
 rintro _ w26 ⟨rfl, uw26⟩
 replace hS := hS.up uw26
 replace hE31 := hE31.up uw26
 replace hE48 := hE48.up uw26
 refine I (.pa rfl (fun hp => (by exact .tmp rfl))) (Ab rfl (Cb (Ab rfl (I (.pa rfl (fun hp => (by exact .tmp rfl))) (LW.A rfl (Ai (Ak (KW.q ?_))))))))
 exact ⟨rfl, hS.Cr⟩
theorem Wj {z : Eng} {c : Nat} (hz : z.Ok c) : (Qp z.kb).length ≤ 1000000000 := by
 have h1 := T2 z.kb z.kb.Processes z.kb.Processes.length
 rw [List.take_length] at h1
 have h2 := (Gb hz).1
 unfold Qp
 rw [List.length_mergeSort]
 omega
set_option maxHeartbeats 8000000 in
theorem P7 (ad : Option Addr) (cp : Nat) (xs : List I6) (id time value : Int) (w : World) (hE1 : Els w ad 6 I6.cells xs) (hid : J1 id) (htime : J1 time) (hval : J1 value) : Ret prog 3 #[.slice ad xs.length cp, vi id, vi time, vi value] w fun r0 w' => r0 = .bool true ∧ Up w w' := by
 obtain ⟨w0, rfl, hS⟩ := W0 w
 refine cT 197 func3 rfl (Af (Ay (Ao (Aa (A3 (eC .nil (KF)) rfl (lZ _) ?_)))))
 rintro _ w1 ⟨rfl, uw1⟩
 replace hS := hS.up uw1
 refine LW.A rfl (Ao (Aa (Ab rfl (A3 (eC (.ct rfl (.cons (.const _) .nil)) (IM)) rfl (P5 _ _ _ cQ) ?_))))
 rintro _ w2 ⟨rfl, uw2⟩
 replace hS := hS.up uw2
 have hpi := Nj (c := id) (n := 9) hid cQ
 obtain ⟨pi, epi⟩ : ∃ pi, pi = A5 id 9 := ⟨_, rfl⟩
 rw [← epi] at hpi ⊢
 refine I (.Gr (.const _) (.t rfl)) (LW.A rfl (Ao ?_))
 obtain ⟨n1, en⟩ : ∃ x, x = IntKind.i64.wrap (1 + pi) := ⟨_, rfl⟩
 rw [← en]
 have hn1 : 1 ≤ n1 ∧ n1 ≤ 9 := by rw [en, Ce oQ (by omega)]; omega
 refine Aa (Ay (Ao (Aa (Ab rfl (A3 (eC (.o rfl) (KG)) rfl (pT ad cp xs _ (Els.up hE1 hS.Cr)) ?_)))))
 rintro v31 w3 ⟨hO31, uw3⟩
 replace hS := hS.add uw3 (A' := J 28 19 Fact.cells v31 (Kj xs)) (hO31.mono (Nat.zero_le _)) (fun i h => hO31.base i h)
 obtain ⟨ad31, cp31, rfl, _⟩ := (hS.own 0 rfl).sl (fun _ => rfl)
 have hl31 := Iu xs
 refine LW.A rfl (Ao (Am ?_))
 replace hS := hS.add (Up.refl _) (A' := J 28 19 Fact.cells (.slice none 0 0) ([] : List Fact)) (OwnS.nil _ _ _ _ _) (by intro i h; cases h)
 refine Aa (Ay (Ai (An (A8 (σ := Nat × Go.Value) (fun s w => (s.1 ≤ (Kj xs).length) ∧ (Wx.Sep no w0 w [J 28 19 Fact.cells (.slice ad31 (Kj xs).length cp31) (Kj xs), J 28 19 Fact.cells s.2 (((Kj xs).take s.1).filter (Wx.notM n1))])) (fun s => [(12, .eq (vi (s.1 : Int))), (10, .eq (s.2))]) ([(1, .eq _), (2, .eq _), (3, .eq _), (8, .eq _), (9, .eq _), (11, .eq _)]) (fun s => (Kj xs).length - s.1) (0, .slice none 0 0) ?_ tQ ?_))))
 ·exact ⟨Nat.zero_le _, hS⟩
 rintro ⟨k, v⟩ w4 ⟨hkk, hS⟩
 dsimp only at hkk hS
 change CW _ _ _ _ _ _ _ ([(12, .eq (vi (k : Int))), (10, .eq (v))] ++ _) _
 refine Am (Af (Ab rfl (Ab rfl (I (.Di underlying25 (.t rfl)) (I (.l2 rfl rfl) (Ai (CW.b rfl (fun h35 => ?_) (fun h35 => ?_))))))))
 ·replace h35 := dQ h35
  refine Aj (Ac (Am (An (Am ?_))))
  obtain ⟨x, hx⟩ := Au (xs := Kj xs) (i := k) oQ
  obtain ⟨Bx, ox, ax, hcx⟩ := (show Els w4 ad31 19 Fact.cells (Kj xs) from (hS.own 0 rfl).els (fun _ => rfl)) k x hx
  refine Aa (Ab rfl (Ab rfl (I (.Av underlying25 sizeOf28 (.t rfl) (.t rfl) oQ ax) (I (.fB 0 rfl) (I (.lb rfl (hcx.nth (j := 0) rfl)) (I (.neq (.t rfl) (.const _)) (Ab rfl (Fk rfl rfl (Fk rfl rfl (LW.gr rfl (fun hc => PEv.Av underlying25 sizeOf28 vQ vQ oQ ax) (LW.gr rfl (fun hc => PEv.fieldAddr (off := 1) underlying28 rfl rfl sizeOf3 rfl vQ) (LW.gr rfl (fun hc => PEv.load isAgg3 vQ (hcx.nth (j := 1) rfl)) (Fk rfl rfl (LW.gr rfl (fun hc => PEv.neq vQ vQ) (I (.po rfl (fun hp => (by exact .cond rfl (by (rw [hp]; rfl))))) (Ai (CW.b rfl (fun h52 => ?_) (fun h52 => ?_))))))))))))))))))
  ·replace h52 := dQ h52
   have hnm : Wx.notM n1 x = true := by unfold Wx.notM; exact h52
   refine Aa (Ab rfl (Ab rfl (Ab rfl (I (.Av underlying25 sizeOf28 (.t rfl) (.t rfl) oQ ax) (I (.lc rfl (hcx)) (Al (.buildSlice (xs := [x]) (enc := Fact.cells) (mk := fun f : Fact => .agg f.cells) underlying25 sizeOf28 zeroValue28 rfl cQ (fun _ => rfl) (fun _ => rfl) (.cu rfl) rfl) rfl ?_))))))
   rintro _ w5 ⟨B58, cB58, rfl, NB58, yB58, xB58⟩
   replace hS := hS.up NB58.up
   have hE58 := xB58
   refine Al (.C2 (enc := Fact.cells) (bytes := 160) (i := Tryz.t28) underlying25 kQ rfl rfl rfl rfl cQ (fun _ => rfl) Fact.one (.t rfl) (.t rfl) (hS.own 1 rfl) (Aw hE58) (by have := Ov (Wx.notM n1) (Kj xs) k; simp [maxLen]; omega) (by have := Ov (Wx.notM n1) (Kj xs) k; simp; omega)) rfl ?_
   intro v59 w6 Gw6
   replace hS := hS.Ez 1 rfl Gw6
   refine LW.A rfl (LW.nil (Ae (Ac (Aa (Ab rfl (I (.ic rfl oQ) (LW.A rfl (LW.nil (Ar ?_)))))))))
   exact ⟨(k + 1, v59), ⟨by show k + 1 ≤ _; omega, by (rw [oM hx hnm]; exact hS.take 2)⟩, tQ, by show (Kj xs).length - (k + 1) < (Kj xs).length - k; omega⟩
  replace h52 := dQ h52
  have hnm : Wx.notM n1 x = false := by unfold Wx.notM; exact h52
  refine Aj (Ae (Ac (Aa (Ab rfl (I (.ic rfl oQ) (LW.A rfl (LW.nil (Ar ?_))))))))
  exact ⟨(k + 1, v), ⟨by show k + 1 ≤ _; omega, by (rw [xZ hx hnm]; exact hS.take 2)⟩, tQ, by show (Kj xs).length - (k + 1) < (Kj xs).length - k; omega⟩
 replace h35 := dQ h35
 refine Bl (Ad (Ad (Aq (Ac (Am ?_)))))
 have hkl : k = (Kj xs).length := by omega
 rw [hkl, List.take_length] at hS
 obtain ⟨ad10, cp10, rfl, _⟩ := (hS.own 1 rfl).sl (fun _ => rfl)
 have hll : ((Kj xs).filter (Wx.notM n1)).length ≤ 30 := Nat.le_trans (List.length_filter_le _ _) hl31
 refine Aa (A3 (eC .nil (KH)) rfl (rC _) ?_)
 rintro _ w7 ⟨z0, rfl, ha0, _, hz0, hN0⟩
 replace hS := hS.join hN0
 refine LW.A rfl (Ao (Aa (Ab rfl (Ab rfl ?_))))
 replace hS := hS.Ec 2 rfl
 replace hS := hS.Ec 2 rfl
 replace hS := hS.Ec 2 rfl
 replace hS := hS.Ec 2 rfl
 replace hS := hS.Ec 2 rfl
 have hq_ := (show Wx.Sep _ _ _ ([_, _] ++ [_, _, _, _, _]) from hS)
 refine A3 (eC (.u rfl rfl) (yO)) rfl (Tz z0 0 ad10 cp10 ((Kj xs).filter (Wx.notM n1)) _ hz0 cQ (by rw [ha0, List.nil_append]; omega) (Db (hq_.left.own 1 rfl) (fun _ => rfl)) (fun _ B o e h => hq_.mA ⟨_, List.mem_of_getElem? (i := 1) rfl, T3 e⟩ h) hq_.right.self) ?_
 rintro _ w8 ⟨z1, rfl, hpz1, haz1, _, hz1, uw8⟩
 replace hS := hq_.frame uw8
 rw [← hpz1]
 replace haz1 : z1.all = ((Kj xs).filter (Wx.notM n1)) := by rw [haz1, ha0]; rfl
 have hkb1 : z1.kb = D5 ((Kj xs).filter (Wx.notM n1)) 100000 := by unfold Eng.kb; rw [haz1]
 refine Ao (Aa (Ab rfl (A3 (eC (.o rfl) (yP)) rfl (P6 z1.E z1.bf z1.bd z1.bc z1.n z1.D z1.kb _ hz1.hbc (Gb hz1).1 hz1.keys hz1.dks hS.b2 (hS.get 5 rfl) (hS.get 6 rfl)) ?_)))
 rintro _ w9 ⟨v65, Ma, rfl, hmMa, hT65⟩
 replace hS := hS.join hT65
 obtain ⟨ad65, cp65, rfl, _⟩ := (hS.own 7 rfl).sl (fun _ => rfl)
 refine LW.A rfl (Ao (Aa (Ab rfl (A3 (eC (.o rfl) (BW)) rfl (Wh z1.E z1.bf z1.bd z1.bc z1.n z1.kb _ hz1.hbc hS.b2 (hS.get 4 rfl) (Gb hz1).1 (Gb hz1).2.1 (Gb hz1).2.2.1 (Gb hz1).2.2.2 rG) ?_))))
 rintro v67 w10 ⟨hO67, uw10⟩
 replace hS := hS.add uw10 (A' := J 3 1 Br v67 (Qp z1.kb)) (hO67.mono (Nat.zero_le _)) (fun i h => hO67.base i h)
 refine LW.A rfl (Ao (Aa (Ab rfl (Ab rfl (A3 (eC (.ct rfl (.cons (.const _) .nil)) (IM)) rfl (P5 _ _ _ cQ) ?_)))))
 rintro _ w11 ⟨rfl, uw11⟩
 replace hS := hS.up uw11
 have htm := Nj (c := time) (n := 60) htime cQ
 obtain ⟨tm, etm⟩ : ∃ tm, tm = A5 time 60 := ⟨_, rfl⟩
 rw [← etm] at htm ⊢
 refine Ab rfl (A3 (eC (.ct rfl (.cons (.const _) .nil)) (IM)) rfl (P5 _ _ _ cQ) ?_)
 rintro _ w12 ⟨rfl, uw12⟩
 replace hS := hS.up uw12
 have hpv := Nj (c := value) (n := 60) hval cQ
 obtain ⟨pv, epv⟩ : ∃ pv, pv = A5 value 60 := ⟨_, rfl⟩
 rw [← epv] at hpv ⊢
 refine I (.sub (.t rfl) (.const _) oQ oQ) (I (.build (cs := (Uv n1 tm (pv - 10)).cells) underlying28 zeroValue28 Hr (.cons (.const _) (.cons (.const _) (.cons (.const _) (.ct rfl (.ct rfl (.cu rfl)))))) kQ) (Al (.Bm zeroValue28) rfl ?_))
 rintro _ w13 ⟨B16, rfl, MB16⟩
 refine Be (.Bi sizeOf28 rfl (.t rfl) (.t rfl) (Fact.one _) MB16.blk rfl) ?_
 intro w14 LB16
 have NB16 := MB16.set LB16
 replace hS := hS.Bn NB16
 refine Ao ?_
 have hv1 := rJ hn1 (time := tm) (value := pv - 10) oQ oQ
 have hv2 := rK hn1 (time := tm) (value := pv - 10) oQ oQ
 have hk12 := wB hv1 hv2
 have hLn : ∀ f ∈ ((Kj xs).filter (Wx.notM n1)), Wx.notM (Uv n1 tm (pv - 10)).ID f = true := fun f hf => (List.mem_filter.1 hf).2
 have hLk1 := Z9 hv1 rfl hLn
 have hLk2 : ∀ g ∈ ((Kj xs).filter (Wx.notM n1)), Bk g = true → A7 g ≠ A7 (iG n1 tm (pv - 10)) := fun g hg hv e => hLk1 g hg hv (e.trans hk12.symm)
 refine Aa (Ab rfl (I (.lc rfl ((hS.blk 10 rfl).agg)) (Al (.buildSlice (xs := ([(Uv n1 tm (pv - 10))] : List Fact)) (enc := Fact.cells) (mk := fun f : Fact => .agg f.cells) underlying25 sizeOf28 zeroValue28 rfl cQ (fun _ => rfl) (fun _ => rfl) (.cu rfl) rfl) rfl ?_)))
 intro v77 w15 hN77
 obtain ⟨uw15, B77, rfl, e77, hO77⟩ := NewSl.own hN77 (fun _ => rfl) cQ (by simp [maxLen])
 replace hS := hS.add uw15 (A' := J 28 19 Fact.cells (.slice (some ⟨B77, 0, none⟩) 1 1) ([(Uv n1 tm (pv - 10))] : List Fact)) hO77 (fun i h => by cases h; exact Nat.le_of_eq e77.symm)
 replace hS := hS.Ec 2 rfl
 replace hS := hS.Ec 2 rfl
 replace hS := hS.Ec 2 rfl
 replace hS := hS.Ec 2 rfl
 replace hS := hS.Ec 2 rfl
 have hq_ := (show Wx.Sep _ _ _ ([_, _, _, _, _, _, _] ++ [_, _, _, _, _]) from hS)
 refine A3 (eC (.u rfl rfl) (yO)) rfl (Tz z1 1 (some ⟨B77, 0, none⟩) 1 [(Uv n1 tm (pv - 10))] _ hz1 cQ (by rw [haz1, List.length_append, List.length_singleton]; omega) (Db (hq_.left.own 6 rfl) (fun _ => rfl)) (fun _ B o e h => hq_.mA ⟨_, List.mem_of_getElem? (i := 6) rfl, T3 e⟩ h) hq_.right.self) ?_
 rintro _ w16 ⟨z2, rfl, hpz2, haz2, _, hz2, uw16⟩
 replace hS := hq_.frame uw16
 rw [← hpz2]
 replace haz2 : z2.all = ((Kj xs).filter (Wx.notM n1)) ++ [(Uv n1 tm (pv - 10))] := by rw [haz2, haz1]
 have hkb2 : z2.kb = D5 (((Kj xs).filter (Wx.notM n1)) ++ [(Uv n1 tm (pv - 10))]) 100000 := by unfold Eng.kb; rw [haz2]
 rw [haz1]
 refine LW.A rfl (Ao (Aa (Ab rfl (A3 (eC (.o rfl) (yP)) rfl (P6 z2.E z2.bf z2.bd z2.bc z2.n z2.D z2.kb _ hz2.hbc (Gb hz2).1 hz2.keys hz2.dks (hS.blk 7 rfl) (hS.get 10 rfl) (hS.get 11 rfl)) ?_))))
 rintro _ w17 ⟨v80, Mb, rfl, hmMb, hT80⟩
 replace hS := hS.join hT80
 obtain ⟨ad80, cp80, rfl, _⟩ := (hS.own 12 rfl).sl (fun _ => rfl)
 refine LW.A rfl (Ao (Aa (I (.fB 2 rfl) (Be (.store sizeOf3 (.t rfl) (.const _) rfl hS.b5 bQ) ?_))))
 intro w18 Nw18
 replace hS := hS.Cp 5 rfl (show Set_ _ w18 _ (({ (Uv n1 tm (pv - 10)) with Version := 2 } : Fact).cells) _ from Nw18)
 refine Ao (Aa (I (.fB 3 rfl) (Be (.store sizeOf3 (.t rfl) (.const _) rfl hS.b5 bQ) ?_)))
 intro w19 Nw19
 replace hS := hS.Cp 5 rfl (show Set_ _ w19 _ (({ (Uv n1 tm (pv - 10)) with Version := 2, Day := 21 } : Fact).cells) _ from Nw19)
 refine Ao (Aa (I (.fB 4 rfl) (Be (.store sizeOf4 (.t rfl) (.const _) rfl hS.b5 bQ) ?_)))
 intro w20 Nw20
 replace hS := hS.Cp 5 rfl (show Set_ _ w20 _ ((iG n1 tm (pv - 10)).cells) _ from Nw20)
 refine Ao (Aa (Ab rfl (I (.lc rfl (hS.b5.agg)) (Al (.buildSlice (xs := ([(iG n1 tm (pv - 10))] : List Fact)) (enc := Fact.cells) (mk := fun f : Fact => .agg f.cells) underlying25 sizeOf28 zeroValue28 rfl cQ (fun _ => rfl) (fun _ => rfl) (.cu rfl) rfl) rfl ?_))))
 intro v86 w21 hN86
 obtain ⟨uw21, B86, rfl, e86, hO86⟩ := NewSl.own hN86 (fun _ => rfl) cQ (by simp [maxLen])
 replace hS := hS.add uw21 (A' := J 28 19 Fact.cells (.slice (some ⟨B86, 0, none⟩) 1 1) ([(iG n1 tm (pv - 10))] : List Fact)) hO86 (fun i h => by cases h; exact Nat.le_of_eq e86.symm)
 replace hS := hS.Ec 7 rfl
 replace hS := hS.Ec 7 rfl
 replace hS := hS.Ec 7 rfl
 replace hS := hS.Ec 7 rfl
 replace hS := hS.Ec 7 rfl
 have hq_ := (show Wx.Sep _ _ _ ([_, _, _, _, _, _, _, _, _, _] ++ [_, _, _, _, _]) from hS)
 refine A3 (eC (.u rfl rfl) (yO)) rfl (Tz z2 2 (some ⟨B86, 0, none⟩) 1 [(iG n1 tm (pv - 10))] _ hz2 cQ (by rw [haz2, List.length_append, List.length_append, List.length_singleton, List.length_singleton]; omega) (Db (hq_.left.own 9 rfl) (fun _ => rfl)) (fun _ B o e h => hq_.mA ⟨_, List.mem_of_getElem? (i := 9) rfl, T3 e⟩ h) hq_.right.self) ?_
 rintro _ w22 ⟨z3, rfl, hpz3, haz3, _, hz3, uw22⟩
 replace hS := hq_.frame uw22
 rw [← hpz3]
 replace haz3 : z3.all = ((Kj xs).filter (Wx.notM n1)) ++ [(Uv n1 tm (pv - 10))] ++ [(iG n1 tm (pv - 10))] := by rw [haz3, haz2]
 have hkb3 : z3.kb = z1.kb := by unfold Eng.kb; rw [haz3, haz1]; exact Wf hv1 hv2 hk12 (by show (1 : Int) < 2; decide) (by show (21 : Int) ≤ 100000; decide) hLk2 rfl
 rw [haz2]
 refine LW.A rfl (Ao (Aa (Ab rfl (A3 (eC (.o rfl) (yP)) rfl (P6 z3.E z3.bf z3.bd z3.bc z3.n z3.D z3.kb _ hz3.hbc (Gb hz3).1 hz3.keys hz3.dks (hS.blk 10 rfl) (hS.get 13 rfl) (hS.get 14 rfl)) ?_))))
 rintro _ w23 ⟨v89, Mc, rfl, hmMc, hT89⟩
 replace hS := hS.join hT89
 obtain ⟨ad89, cp89, rfl, _⟩ := (hS.own 15 rfl).sl (fun _ => rfl)
 refine LW.A rfl (Ao (Am ?_))
 have hLB := rL (L := ((Kj xs).filter (Wx.notM n1))) (m := (Uv n1 tm (pv - 10))) (d := 100000) hv1 rfl rfl (by show (20 : Int) ≤ 100000; decide) hLn
 rw [← hkb1, ← hkb2] at hLB
 have hkn : KnB z1.kb := by rw [hkb1]; exact HT oQ 100000
 have hone := wG (L := ((Kj xs).filter (Wx.notM n1))) (m := (Uv n1 tm (pv - 10))) rfl
 have htwo := rP hv1 hv2 hk12 rfl (by show (1 : Int) < 2; decide) rfl rfl (by show (21 : Int) ≤ 100000; decide) hLk2 (by rw [← hkb1, ← hkb2]; exact hLB.P)
 have hab : Ma.length = Mb.length := by have h1 := congrArg List.length hmMa; have h2 := congrArg List.length hmMb; have h3 := P4 (Qq hLB) 8; rw [List.length_map] at h1 h2; omega
 have hla8 : (F4 z1.kb 8).length ≤ 100000 := Nat.le_trans (Pa z1.kb (Gb hz1).1 8) cQ
 have hua8 : ∀ D ∈ F4 z1.kb 8, D.uses.length ≤ 100000 := fun D hD => Nat.le_trans (Ns z1.kb (Gb hz1).1 8 D hD) cQ
 refine Aa (Ab rfl (I (.Di underlying32 (.t rfl)) (Ab rfl (I (.Di underlying32 (.t rfl)) (I (.fa (PEv.neq (.t rfl) (.t rfl)) (by rw [hab]; simp)) (Ab rfl (Cb (Ab rfl (Cb (I (.fa (PEv.gtr (.t rfl) (.const _)) (decide_eq_false oQ)) (I (.po rfl (fun hp => (by exact .tmp rfl))) (Ab rfl (Cb (Ab rfl (Cb (Ab rfl (Cb (I (.fa (PEv.neq (.t rfl) (.t rfl)) (by rw [htwo]; simp)) (I (.po rfl (fun hp => (by exact .tmp rfl))) (Ab rfl (Cb (Ab rfl (Cb (Ab rfl (Cb (A3 (eC (.u rfl rfl) (IN)) rfl (Xm _ _ (F4 z1.kb 8) (F4 z3.kb 8) _ ⟨Ma, (hS.own 2 rfl).sl (fun _ => rfl), I0 (hS.get 3 rfl), hmMa⟩ ⟨Mc, (hS.own 15 rfl).sl (fun _ => rfl), I0 (hS.get 16 rfl), hmMc⟩ hla8 hua8) ?_))))))))))))))))))))))))))
 rintro _ w24 ⟨rfl, uw24⟩
 replace hS := hS.up uw24
 rw [hkb3, Ql]
 refine Cb (I (.fa (PEv.n1 rfl) (rfl)) (I (.po rfl (fun hp => (by exact .tmp rfl))) (Ab rfl (Cb (Ab rfl (Cb (Ab rfl (Cb (A3 (eC (.o rfl) (BW)) rfl (Wh z3.E z3.bf z3.bd z3.bc z3.n z3.kb _ hz3.hbc (hS.blk 10 rfl) (hS.get 12 rfl) (Gb hz3).1 (Gb hz3).2.1 (Gb hz3).2.2.1 (Gb hz3).2.2.2 rG) ?_)))))))))
 rintro v113 w25 ⟨hO113, uw25⟩
 replace hS := hS.up uw25
 refine Cb (A3 (eC (.u rfl rfl) (BX)) rfl (Qt _ _ (Qp z1.kb) (Qp z3.kb) _ ((hS.own 4 rfl).sl (fun _ => rfl)) (hO113.sl (fun _ => rfl)) (Wj hz1) (Wj hz3)) ?_)
 rintro _ w26 ⟨rfl, uw26⟩
 replace hS := hS.up uw26
 rw [hkb3, decide_eq_true (rfl : Qp z1.kb = Qp z1.kb)]
 refine Cb (I (.fa (PEv.n1 rfl) (rfl)) (I (.po rfl (fun hp => (by exact .tmp rfl))) (Ai (CW.f rfl (Aj (Ac (Am ?_)))))))
 replace hS := hS.sub (.cons _ (.cons _ (.cons_cons _ (.cons _ (.cons _ (.cons _ (.cons _ (.cons_cons _ (.cons_cons _ (List.nil_sublist _))))))))))
 have hla : Ma.length ≤ 800 := by have h1 := congrArg List.length hmMa; have h2 := Pa z1.kb (Gb hz1).1 8; rw [List.length_map] at h1; omega
 have hul : ∀ p ∈ Mb, p.dec.uses.length ≤ 100 := fun p hp => Ns z2.kb (Gb hz2).1 8 p.dec (by rw [← hmMb]; exact List.mem_map.2 ⟨p, hp, rfl⟩)
 obtain ⟨V, eV⟩ : ∃ V, V = BG z2.kb (Uv n1 tm (pv - 10)) := ⟨_, rfl⟩
 have hW8 : ∀ (i : Nat) (x y : DP), Ma[i]? = some x → Mb[i]? = some y → (y.dec = x.dec ∧ n1 ∉ x.dec.uses ∧ ∃ E : Int, E.natAbs ≤ 1000000000 ∧ x.dec.est = Bu E 4) ∨ (y.dec.run = x.dec.run ∧ n1 ∈ y.dec.uses ∧ V ≠ 0 ∧ V.natAbs ≤ 1000000000 ∧ ∃ E : Int, E.natAbs ≤ 1000000000 ∧ (E + V).natAbs ≤ 1000000000 ∧ x.dec.est = Bu E 4 ∧ y.dec.est = Bu (E + V) 4) := fun i x y hx hy => by
  obtain ⟨t_, c_, r_, j_, g1, g2⟩ := aA (Qq hLB) 8 (x := x.dec) (y := y.dec) (i := i) (by rw [← hmMa, List.getElem?_map, hx]; rfl) (by rw [← hmMb, List.getElem?_map, hy]; rfl)
  rw [eV]
  exact HZ hLB hkn g1 g2
 refine Aa (I (.build (cs := rz.cells) underlying39 zeroValue39 Hs .nil rfl) (Al (.Bm zeroValue39) rfl ?_))
 rintro _ w27 ⟨B21, rfl, MB21⟩
 refine Be (.Bi sizeOf39 rfl (.t rfl) (.t rfl) (Rt.one _) MB21.blk rfl) ?_
 intro w28 LB21
 have NB21 := MB21.set LB21
 replace hS := hS.Bn NB21
 refine Ao (Af (Ay (Ai (An (A8 (σ := Nat × Rt) (fun s w => (s.1 ≤ Ma.length) ∧ (s.2 = rz ∨ s.2 = Bu V 4) ∧ (Wx.Sep no w0 w [J 44 6 DP.cells (.slice ad65 Ma.length cp65) Ma, J 44 6 DP.cells (.slice ad80 Mb.length cp80) Mb, Dt (Ek 3 Mb), Cc B21 s.2.cells 39])) (fun s => [(22, .eq (vi (s.1 : Int)))]) ([(1, .eq _), (9, .eq _), (14, .eq _), (18, .eq _), (21, .eq _)]) (fun s => Ma.length - s.1) (0, rz) ?_ tQ ?_)))))
 ·exact ⟨Nat.zero_le _, .inl rfl, hS⟩
 rintro ⟨i, st⟩ w29 ⟨hii, hst, hS⟩
 dsimp only at hii hst hS
 change CW _ _ _ _ _ _ _ ([(22, .eq (vi (i : Int)))] ++ _) _
 refine Am (Af (Ab rfl (Ab rfl (I (.Di underlying32 (.t rfl)) (I (.l2 rfl rfl) (Ai (CW.b rfl (fun h121 => ?_) (fun h121 => ?_))))))))
 ·replace h121 := dQ h121
  refine Aj (Ac (Am (An (Am ?_))))
  have hil : i < Ma.length := by omega
  obtain ⟨x, hx⟩ : ∃ x, Ma[i]? = some x := ⟨_, List.getElem?_eq_getElem hil⟩
  obtain ⟨y, hy⟩ : ∃ y, Mb[i]? = some y := ⟨_, List.getElem?_eq_getElem oQ⟩
  obtain ⟨Bx, ox, ax, hcx⟩ := (Db (hS.own 0 rfl) (fun _ => rfl)) i x hx
  obtain ⟨By, oy, ay, hcy⟩ := (Db (hS.own 1 rfl) (fun _ => rfl)) i y hy
  obtain ⟨adu, cpu, eu_, hEu⟩ := (I0 (hS.get 2 rfl)) y (List.mem_of_getElem? hy)
  replace hEu : Els w29 adu 1 Br y.dec.uses := hEu
  have hyl := hul y (List.mem_of_getElem? hy)
  have hwd := hW8 i x y hx hy
  cases hwd with
  | inl hwd =>
   obtain ⟨exy, hnu, E, hb1, he1⟩ := hwd
   have he2 : y.dec.est = Bu (E + 0) 4 := by rw [exy, he1, Int.add_zero]
   have hb2 : (E + 0 : Int).natAbs ≤ 1000000000 := by rw [Int.add_zero]; exact hb1
   have hbV : (0 : Int).natAbs ≤ 1000000000 := by decide
   rw [← exy] at hnu
   have hdu : decide (n1 ∈ y.dec.uses) = false := decide_eq_false hnu
   refine Q6 17 14 15 12 23 136 (rz.cells) [.eq (.slice ad80 Mb.length cp80), .eq (vi (i : Int)), .eq (.pointer (some ⟨By, oy + i * 6, none⟩)), .eq (.pointer (some ⟨By, oy + i * 6 + 3, none⟩)), .eq (.agg y.dec.est.cells), .eq (.slice ad65 Ma.length cp65), .eq (vi (i : Int)), .eq (.pointer (some ⟨Bx, ox + i * 6, none⟩)), .eq (.pointer (some ⟨Bx, ox + i * 6 + 3, none⟩)), .eq (.agg x.dec.est.cells), .eq (.tuple #[.agg (Bu (0 : Int) 4).cells, vi 0]), .eq (.tuple #[.agg (Bu (0 : Int) 4).cells, vi 0]), .eq (.agg (Bu (0 : Int) 4).cells), .eq (vi 0), .pred fun v _ => ∃ B, v = .pointer (some ⟨B, 0, none⟩), .eq (undef), .eq (vi 0)] [24] zeroValue39 sizeOf39 kQ rfl kQ kQ kQ kQ kQ kQ kQ rfl rfl ⟨_, _, _, rfl⟩ _ rfl ⟨_, _, _, rfl⟩ ⟨PhT.eq _ _, PhT.eq _ _, PhT.eq _ _, PhT.eq _ _, PhT.eq _ _, PhT.eq _ _, PhT.eq _ _, PhT.eq _ _, PhT.eq _ _, PhT.eq _ _, PhT.eq _ _, PhT.eq _ _, PhT.eq _ _, PhT.eq _ _, PhT.pred fun _ _ _ h _ => h, PhT.eq _ _, PhT.eq _ _, trivial⟩ rfl (fun v W h => ⟨_, h, rfl, Rt.one _⟩) (fun B W => ⟨B, rfl⟩) ?_ ?_
   ·intro W hU0
    have hU := (Up.drew w29).trans hU0
    refine aC (.inr ⟨rfl, TU.p (.mv rfl) rfl⟩) (aC (.inr ⟨rfl, TU.p (.mv rfl) rfl⟩) (aC (.inr ⟨rfl, TU.p (.Av underlying32 sizeOf44 (.t rfl) (.t rfl) oQ ay) rfl⟩) (aC (.inr ⟨rfl, TU.p (.fB 3 rfl) rfl⟩) (aC (.inr ⟨rfl, TU.p (.lc rfl (Tj (hcy.up hU))) rfl⟩) (aC (.inr ⟨rfl, TU.p (.mv rfl) rfl⟩) (aC (.inr ⟨rfl, TU.p (.mv rfl) rfl⟩) (aC (.inr ⟨rfl, TU.p (.Av underlying32 sizeOf44 (.t rfl) (.t rfl) oQ ax) rfl⟩) (aC (.inr ⟨rfl, TU.p (.fB 3 rfl) rfl⟩) (aC (.inr ⟨rfl, TU.p (.lc rfl (Tj (hcx.up hU))) rfl⟩) (aC (.inr ⟨rfl, TU.c (eC (.u rfl rfl) (yQ)) (Xj y.dec.est x.dec.est W (by rw [he2]; exact Ir hb2) (by rw [he1]; exact Ir hb1)) (by rintro _ W1 ⟨rfl, u_⟩; rw [he2, he1, iI hbV]; exact ⟨u_, rfl⟩)⟩) (aC (.inr ⟨rfl, TU.p (.mv rfl) rfl⟩) (aC (.inr ⟨rfl, TU.p (.xt rfl rfl) rfl⟩) (aC (.inr ⟨rfl, TU.p (.xt rfl rfl) rfl⟩) (aC (.inl (.inl rfl)) (aC (.inl (.inr rfl)) (aC (.inr ⟨rfl, TU.p (.assign (.t rfl)) rfl⟩) ?_))))))))))))))))
    exact allL.nil
   intro w30 B23 g hU0 zB23_ hB23 hg
   have hU := (Up.drew w29).trans hU0
   have zw30 := hU.size
   have zdr : w29.drew.heap.size = w29.heap.size := rfl
   have g136_ : g 136 = .agg (Bu (0 : Int) 4).cells := hg 12 _ 136 cQ rfl rfl
   have g24_ : g 24 = vi 0 := hg 16 _ 24 cQ rfl rfl
   rw [g136_] at hB23
   replace hB23 : Blk w30 B23 ((Bu (0 : Int) 4).cells) 39 := hB23
   change LW _ _ _ _ _ _ _ _ ((23, _) :: (24, .eq (g 24)) :: _) _
   rw [g24_]
   replace hcx := hcx.up hU
   replace hcy := hcy.up hU
   replace hEu := hEu.up hU
   replace hS := (hS.up (Up.drew _)).add hU0 (A' := Cc B23 ((Bu (0 : Int) 4).cells) 39) hB23 (fun i (e : i = B23) => by omega)
   refine Ao (Aa (Ab rfl (Ab rfl (I (.Av underlying32 sizeOf44 (.t rfl) (.t rfl) oQ ay) (I (.fB 5 rfl) (I (.lb rfl ((show World.cell? _ _ = some (.slice adu y.dec.uses.length cpu) from eu_ ▸ gO hcy))) (Ab rfl (A3 (eC (.u rfl rfl) (BY)) rfl (aB adu cpu y.dec.uses n1 _ hEu oQ) ?_))))))))
   rintro _ w31 ⟨rfl, uw31⟩
   replace hS := hS.up uw31
   replace hcx := hcx.up uw31
   replace hcy := hcy.up uw31
   replace hEu := hEu.up uw31
   rw [hdu]
   refine LW.A rfl (Ao (Am (C5 kQ kQ rfl rfl (U (.mv rfl) (U (.fa (PEv.neq (.t rfl) (.const _)) (rfl)) (U (.mv rfl) (A6 (.mv rfl) (A6 (.mv rfl) (A6 (.Av underlying32 sizeOf44 (.t rfl) (.t rfl) oQ ay) (A6 (.fB 0 rfl) (A6 (.lb rfl (Px hcy)) (A6 (.mv rfl) (A6 (.mv rfl) (A6 (.Av underlying32 sizeOf44 (.t rfl) (.t rfl) oQ ax) (A6 (.fB 0 rfl) (A6 (.lb rfl (Px hcx)) (A6 (.fa (PEv.neq (.t rfl) (.t rfl)) (by rw [exy]; simp)) (U (.po rfl (fun hp => (by exact .tmp rfl))) (U (.mv rfl) (A6 (.mv rfl) (A6 (.fB 0 rfl) (A6 (.lb rfl (hS.b4.Ah rfl)) (A6 (.fa (PEv.neq (.t rfl) (.const _)) kQ) (A6 (.fa (PEv.rY underlying4 (.t rfl) (.t rfl)) (rfl)) (U (.po rfl (fun hp => (by exact .tmp rfl))) (U (.mv rfl) (A6 (.mv rfl) (A6 (.mv rfl) (Dq (Dq (Dq (A6 (.Ei (b := false) (.t rfl) (fun hp => absurd (show false = true from hp) cQ)) (A6 (.mv rfl) (Dq (Dq (Dq (A6 (.Ei (b := false) (.t rfl) (fun hp => absurd (show false = true from hp) cQ)) (U (.po rfl (fun hp => (by exact .tmp rfl))) (U (.mv rfl) (A6 (.mv rfl) (A6 (.mv rfl) (Dq (Dq (Dq (Dq (D6 rfl rfl rfl rfl rfl (D6 rfl rfl rfl rfl rfl (D6 rfl rfl rfl rfl rfl (D6 rfl rfl rfl rfl rfl (Dq (A6 (.Ei (b := false) (.t rfl) (fun hp => absurd (show false = true from hp) cQ)) (U (.po rfl (fun hp => (by exact .tmp rfl))) (HW.nil ?_)))))))))))))))))))))))))))))))))))))))))))))))))))))
   intro w32 uw32
   replace hS := hS.up uw32
   replace hcx := hcx.up uw32
   replace hcy := hcy.up uw32
   replace hEu := hEu.up uw32
   refine Ac (CW.f rfl (Aj (Ac (Af (Ab rfl (Ai (CW.f rfl (Aj (Ae (Ac (Aa (Ab rfl (I (.ic rfl oQ) (LW.A rfl (LW.nil (Ar ?_))))))))))))))))
   exact ⟨(i + 1, st), ⟨by show i + 1 ≤ _; omega, hst, hS.take 4⟩, tQ, by show Ma.length - (i + 1) < Ma.length - i; omega⟩
  | inr hwd =>
   obtain ⟨erun, hnu, hV0, hbV, E, hb1, hb2, he1, he2⟩ := hwd
   have hdn := wD hV0
   have hd4 := JU V
   have hdu : decide (n1 ∈ y.dec.uses) = true := decide_eq_true hnu
   refine Q6 17 14 15 12 23 136 (rz.cells) [.eq (.slice ad80 Mb.length cp80), .eq (vi (i : Int)), .eq (.pointer (some ⟨By, oy + i * 6, none⟩)), .eq (.pointer (some ⟨By, oy + i * 6 + 3, none⟩)), .eq (.agg y.dec.est.cells), .eq (.slice ad65 Ma.length cp65), .eq (vi (i : Int)), .eq (.pointer (some ⟨Bx, ox + i * 6, none⟩)), .eq (.pointer (some ⟨Bx, ox + i * 6 + 3, none⟩)), .eq (.agg x.dec.est.cells), .eq (.tuple #[.agg (Bu V 4).cells, vi 0]), .eq (.tuple #[.agg (Bu V 4).cells, vi 0]), .eq (.agg (Bu V 4).cells), .eq (vi 0), .pred fun v _ => ∃ B, v = .pointer (some ⟨B, 0, none⟩), .eq (undef), .eq (vi 0)] [24] zeroValue39 sizeOf39 kQ rfl kQ kQ kQ kQ kQ kQ kQ rfl rfl ⟨_, _, _, rfl⟩ _ rfl ⟨_, _, _, rfl⟩ ⟨PhT.eq _ _, PhT.eq _ _, PhT.eq _ _, PhT.eq _ _, PhT.eq _ _, PhT.eq _ _, PhT.eq _ _, PhT.eq _ _, PhT.eq _ _, PhT.eq _ _, PhT.eq _ _, PhT.eq _ _, PhT.eq _ _, PhT.eq _ _, PhT.pred fun _ _ _ h _ => h, PhT.eq _ _, PhT.eq _ _, trivial⟩ rfl (fun v W h => ⟨_, h, rfl, Rt.one _⟩) (fun B W => ⟨B, rfl⟩) ?_ ?_
   ·intro W hU0
    have hU := (Up.drew w29).trans hU0
    refine aC (.inr ⟨rfl, TU.p (.mv rfl) rfl⟩) (aC (.inr ⟨rfl, TU.p (.mv rfl) rfl⟩) (aC (.inr ⟨rfl, TU.p (.Av underlying32 sizeOf44 (.t rfl) (.t rfl) oQ ay) rfl⟩) (aC (.inr ⟨rfl, TU.p (.fB 3 rfl) rfl⟩) (aC (.inr ⟨rfl, TU.p (.lc rfl (Tj (hcy.up hU))) rfl⟩) (aC (.inr ⟨rfl, TU.p (.mv rfl) rfl⟩) (aC (.inr ⟨rfl, TU.p (.mv rfl) rfl⟩) (aC (.inr ⟨rfl, TU.p (.Av underlying32 sizeOf44 (.t rfl) (.t rfl) oQ ax) rfl⟩) (aC (.inr ⟨rfl, TU.p (.fB 3 rfl) rfl⟩) (aC (.inr ⟨rfl, TU.p (.lc rfl (Tj (hcx.up hU))) rfl⟩) (aC (.inr ⟨rfl, TU.c (eC (.u rfl rfl) (yQ)) (Xj y.dec.est x.dec.est W (by rw [he2]; exact Ir hb2) (by rw [he1]; exact Ir hb1)) (by rintro _ W1 ⟨rfl, u_⟩; rw [he2, he1, iI hbV]; exact ⟨u_, rfl⟩)⟩) (aC (.inr ⟨rfl, TU.p (.mv rfl) rfl⟩) (aC (.inr ⟨rfl, TU.p (.xt rfl rfl) rfl⟩) (aC (.inr ⟨rfl, TU.p (.xt rfl rfl) rfl⟩) (aC (.inl (.inl rfl)) (aC (.inl (.inr rfl)) (aC (.inr ⟨rfl, TU.p (.assign (.t rfl)) rfl⟩) ?_))))))))))))))))
    exact allL.nil
   intro w33 B23 g hU0 zB23_ hB23 hg
   have hU := (Up.drew w29).trans hU0
   have zw33 := hU.size
   have zdr : w29.drew.heap.size = w29.heap.size := rfl
   have g136_ : g 136 = .agg (Bu V 4).cells := hg 12 _ 136 cQ rfl rfl
   have g24_ : g 24 = vi 0 := hg 16 _ 24 cQ rfl rfl
   rw [g136_] at hB23
   replace hB23 : Blk w33 B23 ((Bu V 4).cells) 39 := hB23
   change LW _ _ _ _ _ _ _ _ ((23, _) :: (24, .eq (g 24)) :: _) _
   rw [g24_]
   replace hcx := hcx.up hU
   replace hcy := hcy.up hU
   replace hEu := hEu.up hU
   replace hS := (hS.up (Up.drew _)).add hU0 (A' := Cc B23 ((Bu V 4).cells) 39) hB23 (fun i (e : i = B23) => by omega)
   refine Ao (Aa (Ab rfl (Ab rfl (I (.Av underlying32 sizeOf44 (.t rfl) (.t rfl) oQ ay) (I (.fB 5 rfl) (I (.lb rfl ((show World.cell? _ _ = some (.slice adu y.dec.uses.length cpu) from eu_ ▸ gO hcy))) (Ab rfl (A3 (eC (.u rfl rfl) (BY)) rfl (aB adu cpu y.dec.uses n1 _ hEu oQ) ?_))))))))
   rintro _ w34 ⟨rfl, uw34⟩
   replace hS := hS.up uw34
   replace hcx := hcx.up uw34
   replace hcy := hcy.up uw34
   replace hEu := hEu.up uw34
   rw [hdu]
   refine LW.A rfl (Ao (Am ?_))
   cases hst with
   | inl hst =>
    subst hst
    refine C5 kQ kQ rfl rfl (U (.mv rfl) (U (.fa (PEv.neq (.t rfl) (.const _)) (rfl)) (U (.mv rfl) (A6 (.mv rfl) (A6 (.mv rfl) (A6 (.Av underlying32 sizeOf44 (.t rfl) (.t rfl) oQ ay) (A6 (.fB 0 rfl) (A6 (.lb rfl (Px hcy)) (A6 (.mv rfl) (A6 (.mv rfl) (A6 (.Av underlying32 sizeOf44 (.t rfl) (.t rfl) oQ ax) (A6 (.fB 0 rfl) (A6 (.lb rfl (Px hcx)) (A6 (.fa (PEv.neq (.t rfl) (.t rfl)) (by rw [erun]; simp)) (U (.po rfl (fun hp => (by exact .tmp rfl))) (U (.mv rfl) (A6 (.mv rfl) (A6 (.fB 0 rfl) (A6 (.lb rfl (hS.b4.Ah rfl)) (A6 (.tr (PEv.neq (.t rfl) (.const _)) (by simpa using hdn)) (A6 (.fa (PEv.rY underlying4 (.t rfl) (.t rfl)) (rfl)) (U (.po rfl (fun hp => (by exact .tmp rfl))) (U (.mv rfl) (A6 (.mv rfl) (A6 (.mv rfl) (A6 (.fB 1 rfl) (A6 (.lb rfl (hS.b3.Ah rfl)) (A6 (.fa (PEv.gtr (.t rfl) (.const _)) (rfl)) (A6 (.pa rfl (fun hp => (by exact .tmp rfl))) (A6 (.mv rfl) (Dq (Dq (Dq (A6 (.Ei (b := false) (.t rfl) (fun hp => absurd (show false = true from hp) cQ)) (U (.po rfl (fun hp => (by exact .tmp rfl))) (U (.mv rfl) (A6 (.mv rfl) (A6 (.mv rfl) (A6 (.fB 1 rfl) (A6 (.lb rfl (hS.b4.Ah rfl)) (A6 (.fa (PEv.lss (.t rfl) (.const _)) (decide_eq_false oQ)) (A6 (.mv rfl) (A6 (.fB 1 rfl) (A6 (.lb rfl (hS.b4.Ah rfl)) (A6 (.rem (.const _) (.t rfl) oQ) (A6 (.fa (PEv.neq (.t rfl) (.const _)) (by rcases hd4 with h | h | h <;> rw [h] <;> rfl)) (A6 (.po rfl (fun hp => (by exact .tmp rfl))) (A6 (.pa rfl (fun hp => (by exact .tmp rfl))) (U (.po rfl (fun hp => (by exact .tmp rfl))) (HW.nil ?_))))))))))))))))))))))))))))))))))))))))))))))))))
    intro w35 uw35
    replace hS := hS.up uw35
    replace hcx := hcx.up uw35
    replace hcy := hcy.up uw35
    replace hEu := hEu.up uw35
    refine Ac (CW.f rfl (Aj (Ac (Af (Ab rfl (Ai (CW.v rfl (Aa (I (.lc rfl (hS.b4.agg)) (Be (.Bi sizeOf39 rfl (.t rfl) (.t rfl) (Rt.one _) hS.b3 rfl) ?_))))))))))
    intro w36 Nw36
    replace hS := hS.Cp 3 rfl Nw36
    skip
    skip
    skip
    refine LW.nil (Ae (Ac (Aa (Ab rfl (I (.ic rfl oQ) (LW.A rfl (LW.nil (Ar ?_))))))))
    exact ⟨(i + 1, Bu V 4), ⟨by show i + 1 ≤ _; omega, .inr rfl, hS.take 4⟩, tQ, by show Ma.length - (i + 1) < Ma.length - i; omega⟩
   | inr hst =>
    subst hst
    refine C5 kQ kQ rfl rfl (U (.mv rfl) (U (.fa (PEv.neq (.t rfl) (.const _)) (rfl)) (U (.mv rfl) (A6 (.mv rfl) (A6 (.mv rfl) (A6 (.Av underlying32 sizeOf44 (.t rfl) (.t rfl) oQ ay) (A6 (.fB 0 rfl) (A6 (.lb rfl (Px hcy)) (A6 (.mv rfl) (A6 (.mv rfl) (A6 (.Av underlying32 sizeOf44 (.t rfl) (.t rfl) oQ ax) (A6 (.fB 0 rfl) (A6 (.lb rfl (Px hcx)) (A6 (.fa (PEv.neq (.t rfl) (.t rfl)) (by rw [erun]; simp)) (U (.po rfl (fun hp => (by exact .tmp rfl))) (U (.mv rfl) (A6 (.mv rfl) (A6 (.fB 0 rfl) (A6 (.lb rfl (hS.b4.Ah rfl)) (A6 (.tr (PEv.neq (.t rfl) (.const _)) (by simpa using hdn)) (A6 (.fa (PEv.rY underlying4 (.t rfl) (.t rfl)) (rfl)) (U (.po rfl (fun hp => (by exact .tmp rfl))) (U (.mv rfl) (A6 (.mv rfl) (A6 (.mv rfl) (A6 (.fB 1 rfl) (A6 (.lb rfl (hS.b3.Ah rfl)) (A6 (.tr (PEv.gtr (.t rfl) (.const _)) (decide_eq_true oQ)) (A6 (.pa rfl (fun hp => (by exact .tmp rfl))) (A6 (.mv rfl) (A6 (.lc rfl (hS.b3.agg)) (A6 (.lc rfl (hS.b4.agg)) (A6 (.fa (Rn eqGuardType39 (Me _ _) (.t rfl) (.t rfl)) (by rw [Zl]; rfl)) (A6 (.pa rfl (fun hp => (by exact .tmp rfl))) (U (.po rfl (fun hp => (by exact .tmp rfl))) (U (.mv rfl) (A6 (.mv rfl) (A6 (.mv rfl) (A6 (.fB 1 rfl) (A6 (.lb rfl (hS.b4.Ah rfl)) (A6 (.fa (PEv.lss (.t rfl) (.const _)) (decide_eq_false oQ)) (A6 (.mv rfl) (A6 (.fB 1 rfl) (A6 (.lb rfl (hS.b4.Ah rfl)) (A6 (.rem (.const _) (.t rfl) oQ) (A6 (.fa (PEv.neq (.t rfl) (.const _)) (by rcases hd4 with h | h | h <;> rw [h] <;> rfl)) (A6 (.po rfl (fun hp => (by exact .tmp rfl))) (A6 (.pa rfl (fun hp => (by exact .tmp rfl))) (U (.po rfl (fun hp => (by exact .tmp rfl))) (HW.nil ?_))))))))))))))))))))))))))))))))))))))))))))))))))
    intro w37 uw37
    replace hS := hS.up uw37
    replace hcx := hcx.up uw37
    replace hcy := hcy.up uw37
    replace hEu := hEu.up uw37
    refine Ac (CW.f rfl (Aj (Ac (Af (Ab rfl (Ai (CW.v rfl (Aa (I (.lc rfl (hS.b4.agg)) (Be (.Bi sizeOf39 rfl (.t rfl) (.t rfl) (Rt.one _) hS.b3 rfl) ?_))))))))))
    intro w38 Nw38
    replace hS := hS.Cp 3 rfl Nw38
    skip
    skip
    skip
    refine LW.nil (Ae (Ac (Aa (Ab rfl (I (.ic rfl oQ) (LW.A rfl (LW.nil (Ar ?_))))))))
    exact ⟨(i + 1, Bu V 4), ⟨by show i + 1 ≤ _; omega, .inr rfl, hS.take 4⟩, tQ, by show Ma.length - (i + 1) < Ma.length - i; omega⟩
 replace h121 := dQ h121
 refine Bl (Ad (Ad (Aq (Ac (Af (Ab rfl (LW.A rfl (Ai (Ak (KW.q ?_))))))))))
 exact ⟨rfl, hS.Cr⟩
end Go.Proofs.YtgjogglfnkgapaaGreatDoor
