import Derived.Test.YtdelcaegofkknaaBa36
import Derived.Test.YtdelcaegofkknaaBt
import Derived.Test.YtdelcaegofkknaaBh
namespace Go.Wx

def vmin (x : Fact) : Fact := { x with Version := if 999999 < x.Version then 999999 else x.Version }
def vmins (L : List Fact) (k : Nat) : List Fact := (L.take k).map vmin ++ L.drop k
theorem vmins_len (L : List Fact) {k : Nat} (h : k ≤ L.length) : (vmins L k).length = L.length := by unfold vmins; rw [List.length_append, List.length_map, List.length_take, List.length_drop]; omega
theorem vmins_at {L : List Fact} {k : Nat} {x : Fact} (h : L[k]? = some x) : (vmins L k)[k]? = some x := by
  have hk := (List.getElem?_eq_some_iff.1 h).1
  unfold vmins
  rw [List.getElem?_append_right (by rw [List.length_map, List.length_take]; omega), List.length_map, List.length_take, Nat.min_eq_left (by omega), Nat.sub_self, List.getElem?_drop, Nat.add_zero, h]
theorem vmins_set {L : List Fact} {k : Nat} {x : Fact} (h : L[k]? = some x) : (vmins L k).set k (vmin x) = vmins L (k + 1) := by
  have hk := (List.getElem?_eq_some_iff.1 h).1
  have e : L.drop k = x :: L.drop (k + 1) := by
    rw [List.drop_eq_getElem_cons hk]
    congr 1
    exact (List.getElem?_eq_some_iff.1 h).2
  unfold vmins
  rw [List.set_append_right _ _ (by rw [List.length_map, List.length_take]; omega), List.length_map, List.length_take, Nat.min_eq_left (by omega), Nat.sub_self, e, List.set_cons_zero, take_succ_of h, List.map_append, List.append_assoc]
  rfl
theorem vmins_end (L : List Fact) : vmins L L.length = L.map vmin := by unfold vmins; rw [List.take_length, List.drop_length, List.append_nil]
theorem vmin_lt {L : List Fact} {f : Fact} (hf : f.Version = 1000000) : ∀ g ∈ L.map vmin, g.Version < f.Version := fun g hg => by
  obtain ⟨x, _, rfl⟩ := List.mem_map.1 hg
  rw [hf]
  show (if 999999 < x.Version then 999999 else x.Version) < 1000000
  split <;> omega
theorem key_iff (x y : Fact) : ((⟨(keyB x).toArray⟩ : ByteArray).toList == (⟨(keyB y).toArray⟩ : ByteArray).toList) = decide (keyB x = keyB y) := by
  rw [ba_toList, ba_toList, Bool.eq_iff_iff]; simp
theorem find_once {l : List Fact} {k : Nat} {x f : Fact} (hn : l.Nodup) (hall : ∀ y ∈ l, keyB y = keyB f → y = f) (hx : l[k]? = some x) (he : keyB x = keyB f) : ((l.take k).any fun y => decide (keyB y = keyB f)) = false := by
  rw [Bool.eq_false_iff]
  intro h
  obtain ⟨y, hy, e⟩ := List.any_eq_true.1 h
  have ey := hall y (List.mem_of_mem_take hy) (of_decide_eq_true e)
  have ex := hall x (List.mem_of_getElem? hx) he
  obtain ⟨j, hj⟩ := List.mem_iff_getElem?.1 hy
  rw [List.getElem?_take] at hj
  split at hj
  · rename_i hjk
    have hk := (List.getElem?_eq_some_iff.1 hx).1
    have hj2 : j < l.length := by omega
    have h1 := (List.getElem?_eq_some_iff.1 hj).2
    have h2 := (List.getElem?_eq_some_iff.1 hx).2
    have := (List.nodup_iff_pairwise_ne.1 hn)
    have := (List.pairwise_iff_getElem.1 this) j k hj2 hk hjk
    rw [h1, h2, ey, ex] at this
    exact this rfl
  · cases hj
theorem all_len (l : List Fact) (d : Int) : (allN (ofB l d) 11).length ≤ l.length := by
  have h : ∀ (b : Base) n, (allN b n).length = cl b n := fun b n => by
    induction n with
    | zero => rfl
    | succ n ih => rw [allN, List.length_append, ih]; rfl
  rw [h]
  exact cl_le l d (Nat.le_refl _)
theorem corr_found {L : List Fact} {f : Fact} {d : Int} (hk : keyB f ≠ []) (hd : f.Day ≤ d) (hv : ∀ g ∈ L, g.Version < f.Version) : ((allN (ofB (L ++ [f]) d) 11).any fun y => decide (keyB y = keyB f)) = !f.Gone := by
  cases hg : f.Gone with
  | true =>
    rw [Bool.not_true, Bool.eq_false_iff]
    intro h
    obtain ⟨y, hy, e⟩ := List.any_eq_true.1 h
    have := ((corr_key hk hd hv y (of_decide_eq_true e)).1 hy).2
    rw [hg] at this; cases this
  | false => rw [Bool.not_false]; exact List.any_eq_true.2 ⟨f, (corr_key hk hd hv f rfl).2 ⟨rfl, hg⟩, by simp⟩
abbrev zb : Array Go.Value := #[.slice none 0 0, .slice none 0 0, .slice none 0 0, .slice none 0 0, .slice none 0 0, .slice none 0 0, .slice none 0 0, .slice none 0 0, .slice none 0 0, .slice none 0 0, .slice none 0 0]
theorem zb_no (i : Nat) (n : Int) : zb[i]? ≠ some (vi n) := by
  match i with
  | 0 | 1 | 2 | 3 | 4 | 5 | 6 | 7 | 8 | 9 | 10 => intro h; cases h
  | k + 11 => intro h; rw [Array.getElem?_eq_none (by simp)] at h; cases h
theorem Els.stoF {w w' : World} {B : Nat} {cs : Array Go.Value} {T : TypeId} {ad : Option Addr} {xs : List Fact} (h : Els w ad 19 Fact.cells xs) (hb : Blk w B cs T) (hc : ∀ (i : Nat) (n : Int), cs[i]? ≠ some (vi n)) (u : Sto B w w') : Els w' ad 19 Fact.cells xs := fun i x hx => by
  obtain ⟨B', o, h1, h2⟩ := h i x hx
  refine ⟨B', o, h1, h2.sto u (fun e => ?_)⟩
  subst e
  have h3 := h2 0 (vi x.Kind) rfl
  have h4 : w.cell? ⟨B', o + i * 19 + 0, none⟩ = cs[o + i * 19 + 0]? := by unfold World.cell?; rw [hb]; rfl
  rw [h4] at h3
  exact hc _ _ h3
theorem Sl.stoF {w w' : World} {B : Nat} {cs : Array Go.Value} {T : TypeId} {v : Go.Value} {xs : List Fact} (h : Sl w v 19 Fact.cells xs) (hb : Blk w B cs T) (hc : ∀ (i : Nat) (n : Int), cs[i]? ≠ some (vi n)) (u : Sto B w w') : Sl w' v 19 Fact.cells xs := let ⟨ad, c, e, hE⟩ := h; ⟨ad, c, e, Els.stoF hE hb hc u⟩
theorem BaseC.stoF {w w' : World} {B : Nat} {cs : Array Go.Value} {T : TypeId} {bc : Array Go.Value} {b : Base} (h : BaseC w bc b) (hb : Blk w B cs T) (hc : ∀ (i : Nat) (n : Int), cs[i]? ≠ some (vi n)) (u : Sto B w w') : BaseC w' bc b := by
  obtain ⟨v0, v1, v2, v3, v4, v5, v6, v7, v8, v9, v10, e, h0, h1, h2, h3, h4, h5, h6, h7, h8, h9, h10⟩ := h
  exact ⟨v0, v1, v2, v3, v4, v5, v6, v7, v8, v9, v10, e, h0.stoF hb hc u, h1.stoF hb hc u, h2.stoF hb hc u, h3.stoF hb hc u, h4.stoF hb hc u, h5.stoF hb hc u, h6.stoF hb hc u, h7.stoF hb hc u, h8.stoF hb hc u, h9.stoF hb hc u, h10.stoF hb hc u⟩
theorem OwnS.tyOf {α : Type} {enc : α → Array Go.Value} {b k : Nat} {e T : TypeId} {w : World} {v : Go.Value} {xs : List α} {cs : Array Go.Value} {B : Nat} (h : OwnS w b e k enc v xs) (ho : v.ownBlock = some B) (hb : Blk w B cs T) : T = e := by
  obtain ⟨_, ⟨rfl, _⟩ | ⟨g, cap, cur, rfl, _, hg, _⟩⟩ := h
  · cases ho
  · cases ho
    have : some (Obj.cells cs T (0, 0)) = some (Obj.cells cur e (0, 0)) := (show w.heap[g]? = _ from hb).symm.trans hg
    injection this with this
    injection this
theorem any_take {α : Type} {l : List α} {k : Nat} {x : α} (p : α → Bool) (h : l[k]? = some x) : (l.take (k + 1)).any p = ((l.take k).any p || p x) := by rw [take_succ_of h, List.any_append]; simp

end Go.Wx
namespace Go.Proofs.Ytdelcaegofkknaa
open Go.Wx Go.RowKit
set_option maxHeartbeats 4000000 in
theorem BaseCorrected_any (ad : Option Addr) (cp : Nat) (l : List Fact) (f : Fact) (day : Int) (w : World) (hE1 : Els w ad 19 Fact.cells l) (hday : inI day) : Ret Try.prog 5 #[.slice ad l.length cp, .agg f.cells, vi day] w fun r w' => r = .bool true ∧ Up w w' := by
  obtain ⟨w0, rfl⟩ : ∃ w0, w0 = w := ⟨_, rfl⟩
  have hS := Sep.start no w0
  refine Calls_start (n := 144) (m := 9) Try.func5 rfl rfl rfl ?_
  refine CW.seq ?_
  -- region 0
  refine CW.region ?_
  refine LW.r (REv.boxA (.tmp rfl)) rfl rfl rfl rfl ?_
  rintro _ w1 ⟨B4, rfl, NB4⟩
  have eB4 := NB4.at_
  have zB4 := NB4.size
  replace hS := hS.addB NB4
  change Wx.Sep _ _ _ [_] at hS
  refine LW.p (PEv.assign (.const _)) rfl rfl rfl ?_
  refine LW.nil ?_
  refine KW.then ?_
  refine CW.seq ?_
  -- region 1
  refine CW.region ?_
  refine LW.c (enter_call0 .nil (Try.en9)) rfl rfl rfl rfl (sane_any _) ?_
  rintro _ w2 ⟨rfl, uw2⟩
  have zw2 := uw2.size
  replace hS := hS.up uw2
  refine LW.p (PEv.assign (.tmp rfl)) rfl rfl rfl ?_
  refine LW.nil ?_
  refine KW.then ?_
  refine CW.seq ?_
  -- region 2
  refine CW.region ?_
  refine LW.p (PEv.move (.tmp rfl)) rfl rfl rfl ?_
  refine LW.c (enter_call0 (.cons (.tmp rfl) (.cons (.const _) .nil)) (Try.en10)) rfl rfl rfl rfl (few_any _ _ 30 l _ (Els.up hE1 hS.upd) (by decide)) ?_
  rintro v22 w3 ⟨hO22, uw3⟩
  have zw3 := uw3.size
  replace hS := hS.add uw3 (A' := aOwn 28 19 Fact.cells v22 (fewL 30 l)) (hO22.mono (Nat.zero_le _)) (fun i h => hO22.base i h)
  change Wx.Sep _ _ _ [_, _] at hS
  clear hO22
  obtain ⟨ad22, cp22, rfl, _⟩ := (hS.own 1 rfl).sl (fun _ => rfl)
  refine LW.p (PEv.assign (.tmp rfl)) rfl rfl rfl ?_
  refine LW.nil ?_
  refine KW.then ?_
  refine CW.seq ?_
  -- region 3
  refine CW.region ?_
  refine LW.p (PEv.move (.tmp rfl)) rfl rfl rfl ?_
  refine LW.c (enter_call0 (.cons (.tmp rfl) (.cons (.const _) .nil)) (Try.en11)) rfl rfl rfl rfl (pick_any _ _ _ (by decide)) ?_
  rintro _ w4 ⟨rfl, uw4⟩
  have zw4 := uw4.size
  replace hS := hS.up uw4
  have hd := pick_range (c := day) (n := 10) hday (by decide)
  obtain ⟨d, ed⟩ : ∃ d, d = pickI day 10 := ⟨_, rfl⟩
  rw [← ed] at hd ⊢
  refine LW.p (PEv.assign (.tmp rfl)) rfl rfl rfl ?_
  refine LW.nil ?_
  refine KW.then ?_
  refine CW.seq ?_
  -- region 4
  refine CW.region ?_
  refine LW.p (PEv.loadA Try.isAgg28 Try.sizeOf28 rfl (.tmp rfl) ((hS.blk 0 rfl).agg)) rfl rfl rfl ?_
  refine LW.r (REv.buildSlice (xs := [f]) (enc := Fact.cells) (mk := fun f : Fact => .agg f.cells) Try.underlying22 Try.sizeOf28 Try.zeroValue28 rfl (by decide) (fun _ => rfl) (fun _ => rfl) (.cons (.tmp rfl) .nil) rfl) rfl rfl rfl rfl ?_
  rintro _ w5 ⟨B26, cB26, rfl, NB26, yB26, xB26⟩
  have eB26 := NB26.at_
  have zB26 := NB26.size
  replace hS := hS.up NB26.up
  have hE26 := xB26
  refine LW.c (enter_call0 (.cons (.tmp rfl) (.cons (.const _) .nil)) (Try.en10)) rfl rfl rfl rfl (few_any _ _ 1 [f] _ hE26 (by decide)) ?_
  rintro v27 w6 ⟨hO27, uw6⟩
  have zw6 := uw6.size
  replace hS := hS.up uw6
  obtain ⟨ad27, cp27, rfl, hE27⟩ := hO27.sl (fun _ => rfl)
  obtain ⟨B27, o27, a27, hc27⟩ := hE27 0 (cutF f) rfl
  have hl27 : (fewL 1 [f]).length = 1 := rfl
  clear hO27
  refine LW.p (PEv.indexAddr' Try.underlying22 Try.sizeOf28 (j := 0) (.tmp rfl) (.const _) (by rw [hl27]; decide) a27) rfl rfl rfl ?_
  refine LW.p (PEv.loadA Try.isAgg28 Try.sizeOf28 rfl (.tmp rfl) (hc27)) rfl rfl rfl ?_
  refine LW.s (SEv.storeA Try.sizeOf28 rfl (.tmp rfl) (.tmp rfl) (by first | rfl | exact Fact.one _ | exact GAct.one _ | exact holdCells_one _ _ | exact hold0_one | (simp [Value.oneCell'])) (hS.blk 0 rfl) rfl) rfl rfl rfl ?_
  intro w7 Nw7
  have zw7 := Nw7.size
  replace hS := hS.putB 0 rfl (show Set_ _ w7 _ ((cutF f).cells) _ from Nw7)
  change Wx.Sep _ _ _ [_, _] at hS
  refine LW.nil ?_
  refine KW.then ?_
  refine CW.seq ?_
  -- region 5
  refine CW.region ?_
  refine LW.p (PEv.fieldAddr (off := 3) Try.underlying28 rfl rfl Try.sizeOf3 rfl (.tmp rfl)) rfl rfl rfl ?_
  refine LW.p (PEv.load Try.isAgg3 (.tmp rfl) ((hS.blk 0 rfl).celln rfl)) rfl rfl rfl ?_
  refine LW.c (enter_call0 (.cons (.tmp rfl) (.cons (.const _) .nil)) (Try.en11)) rfl rfl rfl rfl (pick_any _ _ _ (by decide)) ?_
  rintro _ w8 ⟨rfl, uw8⟩
  have zw8 := uw8.size
  replace hS := hS.up uw8
  obtain ⟨fd, efd⟩ : ∃ fd, fd = { cutF f with Day := pickI (cutF f).Day 10 } := ⟨_, rfl⟩
  have efc : fd.cells = (cutF f).cells.setIfInBounds 3 (vi (pickI (cutF f).Day 10)) := by rw [efd]; rfl
  refine LW.p (PEv.fieldAddr (off := 3) Try.underlying28 rfl rfl Try.sizeOf3 rfl (.tmp rfl)) rfl rfl rfl ?_
  refine LW.s (SEv.store Try.sizeOf3 (.tmp rfl) (.tmp rfl) rfl (hS.blk 0 rfl) (Nat.le_of_ble_eq_true rfl)) rfl rfl rfl ?_
  intro w9 Nw9
  have zw9 := Nw9.size
  replace hS := hS.putB 0 rfl (by rw [← efc] at Nw9; exact Nw9)
  change Wx.Sep _ _ _ [_, _] at hS
  refine LW.nil ?_
  refine KW.then ?_
  refine CW.seq ?_
  refine CW.seq ?_
  have hf1 := fewL_length 30 l
  -- region 6
  refine CW.region ?_
  refine LW.p (PEv.assign (.const _)) rfl rfl rfl ?_
  refine LW.nil ?_
  refine KW.then ?_
  refine CW.block ?_
  refine CW.loopB (σ := Nat) (fun s w => (s ≤ (fewL 30 l).length) ∧ (Wx.Sep no w0 w [aBlk B4 fd.cells 28, aOwn 28 19 Fact.cells (.slice ad22 (fewL 30 l).length cp22) (vmins (fewL 30 l) s)])) (fun s => [(9, .eq (vi (s : Int)))]) ([(0, .eq _), (4, .eq _), (6, .eq _), (7, .eq _), (8, .eq _)]) (fun s => (fewL 30 l).length - s) 0 ?_ ⟨rfl, rfl, rfl, rfl, rfl, rfl, trivial⟩ ?_
  · exact ⟨Nat.zero_le _, hS⟩
  · rintro k w10 ⟨hk, hS⟩
    refine CW.seq ?_
    refine CW.seq ?_
    -- region 7
    refine CW.region ?_
    refine LW.p (PEv.move (.tmp rfl)) rfl rfl rfl ?_
    refine LW.p (PEv.move (.tmp rfl)) rfl rfl rfl ?_
    refine LW.p (PEv.lenS Try.underlying22 (.tmp rfl)) rfl rfl rfl ?_
    refine LW.p (PEv.lss (.tmp rfl) (.tmp rfl)) rfl rfl rfl ?_
    refine LW.nil ?_
    refine KW.then ?_
    refine CW.cond (.tmp rfl) (fun h37 => ?_) (fun h37 => ?_)
    · first | replace h37 := of_decide_eq_true h37 | replace h37 := of_decide_eq_false h37 | skip
      refine CW.skip ?_
      refine KW.then ?_
      refine CW.seq ?_
      refine CW.block ?_
      obtain ⟨x, hx⟩ := getElem?_of_lt (xs := (fewL 30 l)) (i := k) (by omega)
      obtain ⟨g, rfl⟩ := (hS.own 1 rfl).addr (by rw [vmins_len _ (by omega)]; omega)
      obtain ⟨Bx, ox, ax, hcx⟩ := ((hS.own 1 rfl).els (fun _ => rfl)) k x (vmins_at hx)
      cases ax
      -- region 9
      refine CW.region ?_
      refine LW.p (PEv.move (.tmp rfl)) rfl rfl rfl ?_
      refine LW.p (PEv.move (.tmp rfl)) rfl rfl rfl ?_
      refine LW.p (PEv.move (.tmp rfl)) rfl rfl rfl ?_
      refine LW.p (PEv.move (.tmp rfl)) rfl rfl rfl ?_
      refine LW.p (PEv.indexAddr' Try.underlying22 Try.sizeOf28 (.tmp rfl) (.tmp rfl) (by omega) rfl) rfl rfl rfl ?_
      refine LW.p (PEv.fieldAddr (off := 2) Try.underlying28 rfl rfl Try.sizeOf3 rfl (.tmp rfl)) rfl rfl rfl ?_
      refine LW.p (PEv.load Try.isAgg3 (.tmp rfl) (hcx.nth (j := 2) rfl)) rfl rfl rfl ?_
      refine LW.p (PEv.min2 (.tmp rfl) (.const _)) rfl rfl rfl ?_
      refine LW.p (PEv.indexAddr' Try.underlying22 Try.sizeOf28 (.tmp rfl) (.tmp rfl) (by omega) rfl) rfl rfl rfl ?_
      refine LW.p (PEv.fieldAddr (off := 2) Try.underlying28 rfl rfl Try.sizeOf3 rfl (.tmp rfl)) rfl rfl rfl ?_
      refine LW.s (SEv.storeOwnF (enc := Fact.cells) (k := 19) (z := vmin x) (i := k) (j := 2) Try.sizeOf3 (fun _ => rfl) rfl (.tmp rfl) (.tmp rfl) (hS.own 1 rfl) (vmins_at hx) (by decide) rfl) rfl rfl rfl ?_
      intro w11 Gw11
      rw [vmins_set hx] at Gw11
      have zw11 := Gw11.fr.size
      replace hS := hS.stp 1 rfl Gw11
      change Wx.Sep _ _ _ [_, _] at hS
      refine LW.nil ?_
      refine KW.inBlock ?_
      refine KW.then ?_
      -- region 8
      refine CW.region ?_
      refine LW.p (PEv.move (.tmp rfl)) rfl rfl rfl ?_
      refine LW.p (PEv.inc (.tmp rfl) (by omega)) rfl rfl rfl ?_
      refine LW.p (PEv.assign (.tmp rfl)) rfl rfl rfl ?_
      refine LW.nil ?_
      refine KW.round ?_
      exact ⟨k + 1, ⟨by omega, hS⟩, ⟨rfl, rfl, rfl, rfl, rfl, rfl, trivial⟩, by first | omega | (dsimp only; omega)⟩
    · first | replace h37 := of_decide_eq_true h37 | replace h37 := of_decide_eq_false h37 | skip
      refine CW.exit ?_
      refine KW.then_exit ?_
      refine KW.then_exit ?_
      refine KW.block_hit ?_
      refine KW.then ?_
      refine CW.seq ?_
      have hke : k = (fewL 30 l).length := by omega
      rw [hke, vmins_end] at hS
      obtain ⟨f1, ef1⟩ : ∃ f1, f1 = { fd with Version := 1000000 } := ⟨_, rfl⟩
      have e1c : f1.cells = fd.cells.setIfInBounds 2 (vi 1000000) := by rw [ef1]; rfl
      have hv1 : ∀ g ∈ ((fewL 30 l).map vmin), g.Version < f1.Version := vmin_lt (by rw [ef1])
      -- region 10
      refine CW.region ?_
      refine LW.p (PEv.fieldAddr (off := 2) Try.underlying28 rfl rfl Try.sizeOf3 rfl (.tmp rfl)) rfl rfl rfl ?_
      refine LW.s (SEv.store Try.sizeOf3 (.tmp rfl) (.const _) rfl (hS.blk 0 rfl) (Nat.le_of_ble_eq_true rfl)) rfl rfl rfl ?_
      intro w12 Nw12
      have zw12 := Nw12.size
      replace hS := hS.putB 0 rfl (by rw [← e1c] at Nw12; exact Nw12)
      change Wx.Sep _ _ _ [_, _] at hS
      refine LW.nil ?_
      refine KW.then ?_
      refine CW.seq ?_
      -- region 11
      refine CW.region ?_
      refine LW.p (PEv.loadA Try.isAgg28 Try.sizeOf28 rfl (.tmp rfl) ((hS.blk 0 rfl).agg)) rfl rfl rfl ?_
      refine LW.c (enter_call0 (.cons (.tmp rfl) .nil) (Try.en14)) rfl rfl rfl rfl (Key_any _ _) ?_
      rintro _ w13 ⟨rfl, uw13⟩
      have zw13 := uw13.size
      replace hS := hS.up uw13
      refine LW.p (PEv.assign (.tmp rfl)) rfl rfl rfl ?_
      refine LW.nil ?_
      refine KW.then ?_
      refine CW.seq ?_
      have hEl : Els w13 ad22 19 Fact.cells ((fewL 30 l).map vmin) := (hS.own 1 rfl).els (fun _ => rfl)
      have hOf := Of_any ad22 cp22 ((fewL 30 l).map vmin) d w13 hEl (by simp; omega)
      rw [List.length_map] at hOf
      -- region 12
      refine CW.region ?_
      refine LW.p (PEv.move (.tmp rfl)) rfl rfl rfl ?_
      refine LW.p (PEv.move (.tmp rfl)) rfl rfl rfl ?_
      refine LW.c (enter_call0 (.cons (.tmp rfl) (.cons (.tmp rfl) .nil)) (Try.en13)) rfl rfl rfl rfl (hOf) ?_
      rintro _ w14 ⟨bc, rfl, hC1, uw14⟩
      have zw14 := uw14.size
      replace hS := hS.up uw14
      refine LW.r (REv.allocA Try.zeroValue31) rfl rfl rfl rfl ?_
      rintro _ w15 ⟨B11, rfl, MB11⟩
      refine LW.s (SEv.storeA Try.sizeOf31 (hC1.size) (.tmp rfl) (.tmp rfl) (hC1.one) MB11.blk rfl) rfl rfl rfl ?_
      intro w16 LB11
      have NB11 := MB11.set LB11
      clear LB11 MB11
      have eB11 := NB11.at_
      have zB11 := NB11.size
      replace hC1 := hC1.up NB11.up
      replace hS := hS.addB NB11
      change Wx.Sep _ _ _ [_, _, _] at hS
      refine LW.nil ?_
      refine KW.then ?_
      refine CW.seq ?_
      -- region 13 draws its order
      refine CW.freeH 9 5 [2, 4, 0] [7] [.pred fun v W => ∃ B, v = .slice (some ⟨B, 0, none⟩) 0 0 ∧ OwnS W w16.drew.heap.size 28 19 Fact.cells (.slice (some ⟨B, 0, none⟩) 0 0) ([] : List Fact), .eq (.slice ad22 (fewL 30 l).length cp22), .pred fun v W => OwnS W w16.drew.heap.size 28 19 Fact.cells v (((fewL 30 l).map vmin)), .eq (.agg f1.cells), .pred fun v W => Sl W v 19 Fact.cells [f1], .pred fun v W => OwnS W 0 28 19 Fact.cells v (((fewL 30 l).map vmin) ++ [f1]), .eq (vi d), .pred fun v W => BaseV W v (ofB (((fewL 30 l).map vmin) ++ [f1]) d), .pred fun v W => ∃ B, v = .pointer (some ⟨B, 0, none⟩) ∧ w16.drew.heap.size ≤ B ∧ Blk W B zb 31] [12, 63] (fun W W' => ∀ B cs T, T ≠ 28 → Blk W B cs T → Blk W' B cs T) (by kernel_rfl) rfl (by kernel_rfl) (by kernel_rfl) (by kernel_rfl) (by kernel_rfl) (by kernel_rfl) (by kernel_rfl) (by kernel_rfl) (by kernel_rfl) (by kernel_rfl) (by kernel_rfl) ⟨PhU.pred fun _ _ _ h u => let ⟨B, e, ho⟩ := h; ⟨B, e, ho.up u⟩, PhU.eq _, PhU.pred fun _ _ _ h u => OwnS.up h u, PhU.eq _, PhU.pred fun _ _ _ h u => Sl.up h u, PhU.pred fun _ _ _ h u => OwnS.up h u, PhU.eq _, PhU.pred fun _ _ _ h u => BaseV.up h u, PhU.pred fun _ _ _ h u => let ⟨B, e, hz, hb⟩ := h; ⟨B, e, hz, hb.up u⟩, trivial⟩ ⟨.inl rfl, .inr (fun _ _ _ h _ => h), .inl rfl, .inr (fun _ _ _ h _ => h), .inl rfl, .inl rfl, .inr (fun _ _ _ h _ => h), .inl rfl, .inr (fun v W W' h k => let ⟨B, e, hz, hb⟩ := h; ⟨B, e, hz, k B _ _ (by decide) hb⟩), trivial⟩ ?_ ?_
      · intro W hU0
        have hU := (Up.drew w16).trans hU0
        have hSW := hS.up hU
        have zU0 := hU0.size
        refine allL.cons ⟨rfl, fun _ => TU.r (REv.buildSlice (xs := ([] : List Fact)) (enc := Fact.cells) (mk := fun f : Fact => .agg f.cells) Try.underlying22 Try.sizeOf28 Try.zeroValue28 rfl (Nat.le_of_ble_eq_true rfl) (fun _ => rfl) (fun _ => rfl) .nil rfl) (fun v W' h => let ⟨u, B, e, ho⟩ := NewSl.own0 (base := w16.drew.heap.size) h zU0; ⟨u, B, e, ho⟩), fun h => absurd h (by decide)⟩ ?_
        refine allL.cons ⟨rfl, fun _ => TU.p (PEv.move (.tmp rfl)) rfl, fun h => absurd h (by decide)⟩ ?_
        refine allL.cons ⟨rfl, fun _ => TU.open (d := 56) rfl fun v hv => by obtain ⟨B, rfl, ho⟩ := hv; exact TU.r (REv.append0 (enc := Fact.cells) (k := 19) (bytes := 160) (i := Try.t28) Try.underlying22 (by kernel_rfl) rfl rfl rfl rfl (by decide) (fun _ => rfl) (.tmp rfl) (.tmp rfl) ho (by have := (hSW.own 1 rfl).sl (fun _ => rfl); simpa using this) (by simp [maxLen]; omega) (by simp; omega) zU0) (fun _ _ h => h), fun h => absurd h (by decide)⟩ ?_
        refine allL.cons ⟨rfl, fun _ => TU.p (PEv.loadA Try.isAgg28 Try.sizeOf28 rfl (.tmp rfl) ((hSW.blk 0 rfl).agg)) rfl, fun h => absurd h (by decide)⟩ ?_
        refine allL.cons ⟨rfl, fun _ => TU.r (REv.buildSlice (xs := [f1]) (enc := Fact.cells) (mk := fun f : Fact => .agg f.cells) Try.underlying22 Try.sizeOf28 Try.zeroValue28 rfl (Nat.le_of_ble_eq_true rfl) (fun _ => rfl) (fun _ => rfl) (.cons (.tmp rfl) .nil) rfl) (fun v W' h => h.q), fun h => absurd h (by decide)⟩ ?_
        refine allL.cons ⟨rfl, fun h => absurd rfl h, fun _ a ha => ?_⟩ ?_
        · skip
          have h58 := ha.known (p := fun v W => OwnS W w16.drew.heap.size 28 19 Fact.cells v ((fewL 30 l).map vmin)) (t := 58) rfl
          have h60 := ha.known (p := fun v W => Sl W v 19 Fact.cells [f1]) (t := 60) rfl
          obtain ⟨v, W', hr, hG⟩ := REv.appendF (enc := Fact.cells) (bytes := 160) (i := Try.t28) Try.underlying22 (by kernel_rfl) rfl rfl rfl rfl (by decide) (fun _ => rfl) Fact.one (.tmp (t := 58) rfl) (.tmp (t := 60) rfl) (h58.mono (Nat.zero_le _)) h60 (by simp [maxLen]; omega) (by simp; omega) a ((ha.learn (t := 58) rfl).learn (t := 60) rfl)
          exact .inl ⟨v, W', hr, ⟨hU0.frz hG.fr (fun b hb => h58.base b hb), fun B cs T hT hb => (hG.fr.block B (lt_of_block hb) (fun e => hT ((h58.mono (Nat.zero_le _)).tyOf e hb))).trans hb⟩, hG.holds⟩
        refine allL.cons ⟨rfl, fun _ => TU.p (PEv.move (.tmp rfl)) rfl, fun h => absurd h (by decide)⟩ ?_
        refine allL.cons ⟨rfl, fun _ => TU.open (d := 61) rfl fun v hv => by obtain ⟨ad, cp, rfl, hE⟩ := OwnS.sl hv (fun _ => rfl); exact TU.c (enter_call0 (.cons (.tmp rfl) (.cons (.tmp rfl) .nil)) (Try.en13)) (Of_any ad cp (((fewL 30 l).map vmin) ++ [f1]) d W hE (by simp; omega)) (fun v W' h => let ⟨bc', e, hB, u⟩ := h; ⟨u, bc', e, hB⟩), fun h => absurd h (by decide)⟩ ?_
        refine allL.cons ⟨rfl, fun _ => TU.r (REv.allocA Try.zeroValue31) (fun v W' h => let ⟨B, e, N⟩ := h; ⟨N.up, B, e, by rw [N.at_]; exact zU0, N.blk⟩), fun h => absurd h (by decide)⟩ ?_
        exact allL.nil
      · intro w17 g hU0 hg
        have hU := (Up.drew w16).trans hU0
        have zw17 := hU.size
        obtain ⟨Bz, ez, hzz, hBz⟩ : ∃ B, g 12 = .pointer (some ⟨B, 0, none⟩) ∧ w16.drew.heap.size ≤ B ∧ Blk w17 B zb 31 := hg 8 _ 12 (by decide) rfl rfl rfl
        obtain ⟨bc2, e63, hC2⟩ : BaseV w17 (g 63) (ofB (((fewL 30 l).map vmin) ++ [f1]) d) := hg 7 _ 63 (by decide) rfl rfl rfl
        change LW _ _ _ _ _ _ _ _ ((12, .eq (g 12)) :: (63, .eq (g 63)) :: _) _
        rw [ez, e63]
        clear hg
        refine LW.s (SEv.storeA Try.sizeOf31 hC2.size (.tmp rfl) (.tmp rfl) hC2.one hBz rfl) rfl rfl rfl ?_
        intro w18 Nw18
        have uw18 := hU.sto Nw18.sto (show _ ≤ _ from hzz)
        have zw18 := uw18.size
        replace hS := hS.up uw18
        replace hC1 := hC1.up uw18
        replace hC2 := hC2.stoF hBz zb_no Nw18.sto
        replace hBz := Nw18.blk
        have hW := hS.upd
        have hB4 := hS.blk 0 rfl
        have hB11 := hS.blk 2 rfl
        refine LW.nil ?_
        refine KW.then ?_
        refine CW.seq ?_
        refine CW.seq ?_
        cases hq14 : decide (keyB f1 = []) with
        | true =>
          -- region 14
          refine CW.region ?_
          refine LW.p (PEv.move (.tmp rfl)) rfl rfl rfl ?_
          refine LW.p (PEv.tr (PEv.eqlStr (.tmp rfl) (.const _)) (key_empty (of_decide_eq_true hq14))) rfl rfl rfl ?_
          refine LW.p (PEv.move (.tmp rfl)) rfl rfl rfl ?_
          refine LW.no rfl rfl rfl rfl rfl rfl rfl rfl ?_
          refine LW.no rfl rfl rfl rfl rfl rfl rfl rfl ?_
          refine LW.no rfl rfl rfl rfl rfl rfl rfl rfl ?_
          refine LW.no rfl rfl rfl rfl rfl rfl rfl rfl ?_
          refine LW.p (PEv.pick_or (b := false) (.tmp rfl) (fun hp => absurd (show true = false from hp) (by decide))) rfl rfl rfl ?_
          refine LW.nil ?_
          refine KW.then ?_
          refine CW.cond_true (.tmp rfl) ?_
          refine CW.seq ?_
          -- region 15
          refine CW.region ?_
          refine LW.p (PEv.move (.tmp rfl)) rfl rfl rfl ?_
          refine LW.p (PEv.move (.tmp rfl)) rfl rfl rfl ?_
          refine LW.yes rfl rfl rfl rfl rfl rfl ?_
          refine LW.p (PEv.loadA Try.isAgg31 Try.sizeOf31 (hC1.size) (.tmp rfl) (hB11.agg)) rfl rfl rfl ?_
          refine LW.yes rfl rfl rfl rfl rfl rfl ?_
          refine LW.p (PEv.loadA Try.isAgg31 Try.sizeOf31 (hC2.size) (.tmp rfl) (hBz.agg)) rfl rfl rfl ?_
          refine LW.yes rfl rfl rfl rfl rfl rfl ?_
          refine LW.c (enter_call0 (.cons (.tmp rfl) (.cons (.tmp rfl) .nil)) (Try.en12)) rfl rfl rfl rfl (refSame_any bc bc2 (ofB ((fewL 30 l).map vmin) d) (ofB (((fewL 30 l).map vmin) ++ [f1]) d) _ hC1 hC2 (ofB_short (by simp; omega) d)) ?_
          rintro _ w19 ⟨rfl, uw19⟩
          have zw19 := uw19.size
          replace hW := hW.up uw19
          replace hB4 := hB4.up uw19
          replace hB11 := hB11.up uw19
          replace hBz := hBz.up uw19
          replace hC1 := hC1.up uw19
          replace hC2 := hC2.up uw19
          rw [show ofB (((fewL 30 l).map vmin) ++ [f1]) d = ofB ((fewL 30 l).map vmin) d from corr_skip (by first | exact .inl (of_decide_eq_true hq14) | exact .inr (by omega)), sameB_refl]
          refine LW.p (PEv.pick_and (.tmp rfl) (fun hp => (by first | exact .const _ | exact .tmp rfl | exact .cond rfl (by first | assumption | (rw [hp]; rfl) | simp_all)))) rfl rfl rfl ?_
          refine LW.p (PEv.assign (.tmp rfl)) rfl rfl rfl ?_
          refine LW.nil ?_
          refine KW.then ?_
          refine CW.ret ?_
          refine KW.then_ret ?_
          refine KW.ret1 rfl rfl ⟨_, rfl, ?_⟩
          first | exact ⟨rfl, hW.trans hUL⟩ | exact ⟨rfl, hW⟩
        | false =>
          -- region 14
          refine CW.region ?_
          refine LW.p (PEv.move (.tmp rfl)) rfl rfl rfl ?_
          refine LW.p (PEv.fa (PEv.eqlStr (.tmp rfl) (.const _)) (key_full (of_decide_eq_false hq14))) rfl rfl rfl ?_
          refine LW.p (PEv.move (.tmp rfl)) rfl rfl rfl ?_
          refine LW.yes rfl rfl rfl rfl rfl rfl ?_
          refine LW.p (PEv.fieldAddr (off := 3) Try.underlying28 rfl rfl Try.sizeOf3 rfl (.tmp rfl)) rfl rfl rfl ?_
          refine LW.yes rfl rfl rfl rfl rfl rfl ?_
          refine LW.p (PEv.load Try.isAgg3 (.tmp rfl) (hB4.celln rfl)) rfl rfl rfl ?_
          refine LW.yes rfl rfl rfl rfl rfl rfl ?_
          refine LW.p (PEv.move (.tmp rfl)) rfl rfl rfl ?_
          refine LW.yes rfl rfl rfl rfl rfl rfl ?_
          refine LW.p (PEv.gtr (.tmp rfl) (.tmp rfl)) rfl rfl rfl ?_
          refine LW.p (PEv.pick_or (.tmp rfl) (fun hp => (by first | exact .const _ | exact .tmp rfl | exact .cond rfl (by first | assumption | (rw [hp]; rfl) | simp_all)))) rfl rfl rfl ?_
          refine LW.nil ?_
          refine KW.then ?_
          refine CW.cond (.tmp rfl) (fun h71 => ?_) (fun h71 => ?_)
          · first | replace h71 := of_decide_eq_true h71 | replace h71 := of_decide_eq_false h71 | skip
            have hd71 : d < f1.Day := by simpa using h71
            refine CW.seq ?_
            -- region 15
            refine CW.region ?_
            refine LW.p (PEv.move (.tmp rfl)) rfl rfl rfl ?_
            refine LW.p (PEv.move (.tmp rfl)) rfl rfl rfl ?_
            refine LW.yes rfl rfl rfl rfl rfl rfl ?_
            refine LW.p (PEv.loadA Try.isAgg31 Try.sizeOf31 (hC1.size) (.tmp rfl) (hB11.agg)) rfl rfl rfl ?_
            refine LW.yes rfl rfl rfl rfl rfl rfl ?_
            refine LW.p (PEv.loadA Try.isAgg31 Try.sizeOf31 (hC2.size) (.tmp rfl) (hBz.agg)) rfl rfl rfl ?_
            refine LW.yes rfl rfl rfl rfl rfl rfl ?_
            refine LW.c (enter_call0 (.cons (.tmp rfl) (.cons (.tmp rfl) .nil)) (Try.en12)) rfl rfl rfl rfl (refSame_any bc bc2 (ofB ((fewL 30 l).map vmin) d) (ofB (((fewL 30 l).map vmin) ++ [f1]) d) _ hC1 hC2 (ofB_short (by simp; omega) d)) ?_
            rintro _ w20 ⟨rfl, uw20⟩
            have zw20 := uw20.size
            replace hW := hW.up uw20
            replace hB4 := hB4.up uw20
            replace hB11 := hB11.up uw20
            replace hBz := hBz.up uw20
            replace hC1 := hC1.up uw20
            replace hC2 := hC2.up uw20
            rw [show ofB (((fewL 30 l).map vmin) ++ [f1]) d = ofB ((fewL 30 l).map vmin) d from corr_skip (by first | exact .inl (of_decide_eq_true hq14) | exact .inr (by omega)), sameB_refl]
            refine LW.p (PEv.pick_and (.tmp rfl) (fun hp => (by first | exact .const _ | exact .tmp rfl | exact .cond rfl (by first | assumption | (rw [hp]; rfl) | simp_all)))) rfl rfl rfl ?_
            refine LW.p (PEv.assign (.tmp rfl)) rfl rfl rfl ?_
            refine LW.nil ?_
            refine KW.then ?_
            refine CW.ret ?_
            refine KW.then_ret ?_
            refine KW.ret1 rfl rfl ⟨_, rfl, ?_⟩
            first | exact ⟨rfl, hW.trans hUL⟩ | exact ⟨rfl, hW⟩
          · first | replace h71 := of_decide_eq_true h71 | replace h71 := of_decide_eq_false h71 | skip
            have hd71 : ¬ d < f1.Day := by simpa using h71
            refine CW.skip ?_
            refine KW.then ?_
            refine CW.seq ?_
            have hk0 : keyB f1 ≠ [] := of_decide_eq_false hq14
            have hday2 : f1.Day ≤ d := by omega
            have hlb := all_len ((fewL 30 l).map vmin) d
            have hln := all_len (((fewL 30 l).map vmin) ++ [f1]) d
            have hl31 : (((fewL 30 l).map vmin) ++ [f1]).length ≤ 31 := by rw [List.length_append, List.length_map]; simp; omega
            rw [List.length_map] at hlb
            -- region 16
            refine CW.region ?_
            refine LW.p (PEv.assign (.const _)) rfl rfl rfl ?_
            refine LW.nil ?_
            refine KW.then ?_
            refine CW.seq ?_
            -- region 17
            refine CW.region ?_
            refine LW.p (PEv.assign (.const _)) rfl rfl rfl ?_
            refine LW.nil ?_
            refine KW.then ?_
            refine CW.seq ?_
            -- region 18
            refine CW.region ?_
            refine LW.p (PEv.loadA Try.isAgg31 Try.sizeOf31 (hC1.size) (.tmp rfl) (hB11.agg)) rfl rfl rfl ?_
            refine LW.c (enter_call0 (.cons (.tmp rfl) .nil) (Try.en15)) rfl rfl rfl rfl (All_any bc _ _ hC1 (ofB_short (by simp; omega) d)) ?_
            rintro v79 w21 ⟨hO79, uw21⟩
            have zw21 := uw21.size
            replace hW := hW.up uw21
            replace hB4 := hB4.up uw21
            replace hB11 := hB11.up uw21
            replace hBz := hBz.up uw21
            replace hC1 := hC1.up uw21
            replace hC2 := hC2.up uw21
            obtain ⟨ad15, cp15, rfl, hEb⟩ := hO79.sl (fun _ => rfl)
            have hlb := allN_len (ofB_short (l := ((fewL 30 l).map vmin)) (by simp; omega) d) 11
            refine LW.p (PEv.assign (.tmp rfl)) rfl rfl rfl ?_
            refine LW.nil ?_
            refine KW.then ?_
            refine CW.seq ?_
            refine CW.seq ?_
            have hS := (Sep.start no w21).add (Up.refl _) (A' := aOwn 28 19 Fact.cells (.slice none 0 0) ([] : List Fact)) (OwnS.nil _ _ _ _ _) (fun i h => by cases h)
            change Wx.Sep _ _ _ [_] at hS
            -- region 19
            refine CW.region ?_
            refine LW.p (PEv.assign (.const _)) rfl rfl rfl ?_
            refine LW.nil ?_
            refine KW.then ?_
            refine CW.block ?_
            refine CW.loopB (σ := Nat × Go.Value) (fun s w => (s.1 ≤ (allN (ofB ((fewL 30 l).map vmin) d) 11).length) ∧ (Wx.Sep no w21 w [aOwn 28 19 Fact.cells s.2 (((allN (ofB ((fewL 30 l).map vmin) d) 11).take s.1).filter (offKey (keyB f1)))]) ∧ (Up w21 w)) (fun s => [(16, .eq (vi (s.1 : Int))), (13, .eq (s.2))]) ([(4, .eq _), (6, .eq _), (7, .eq _), (10, .eq _), (12, .eq _), (14, .eq _), (15, .eq _)]) (fun s => (allN (ofB ((fewL 30 l).map vmin) d) 11).length - s.1) (0, .slice none 0 0) ?_ ⟨rfl, rfl, rfl, rfl, rfl, rfl, rfl, rfl, rfl, trivial⟩ ?_
            · exact ⟨Nat.zero_le _, hS, hS.upd⟩
            · rintro ⟨k, vw⟩ w22 ⟨hk, hS, hUL⟩
              dsimp only at hk hS
              change CW _ _ _ _ _ _ _ ([(16, .eq (vi (k : Int))), (13, .eq (vw))] ++ _) _
              refine CW.seq ?_
              refine CW.seq ?_
              -- region 20
              refine CW.region ?_
              refine LW.p (PEv.move (.tmp rfl)) rfl rfl rfl ?_
              refine LW.p (PEv.move (.tmp rfl)) rfl rfl rfl ?_
              refine LW.p (PEv.lenS Try.underlying22 (.tmp rfl)) rfl rfl rfl ?_
              refine LW.p (PEv.lss (.tmp rfl) (.tmp rfl)) rfl rfl rfl ?_
              refine LW.nil ?_
              refine KW.then ?_
              refine CW.cond (.tmp rfl) (fun h83 => ?_) (fun h83 => ?_)
              · first | replace h83 := of_decide_eq_true h83 | replace h83 := of_decide_eq_false h83 | skip
                refine CW.skip ?_
                refine KW.then ?_
                refine CW.seq ?_
                refine CW.block ?_
                refine CW.seq ?_
                obtain ⟨x, hx⟩ := getElem?_of_lt (xs := (allN (ofB ((fewL 30 l).map vmin) d) 11)) (i := k) (by omega)
                obtain ⟨Bx, ox, ax, hcx⟩ := (Els.up hEb hUL) k x hx
                -- region 22
                refine CW.region ?_
                refine LW.p (PEv.move (.tmp rfl)) rfl rfl rfl ?_
                refine LW.p (PEv.move (.tmp rfl)) rfl rfl rfl ?_
                refine LW.p (PEv.indexAddr' Try.underlying22 Try.sizeOf28 (.tmp rfl) (.tmp rfl) (by omega) ax) rfl rfl rfl ?_
                refine LW.p (PEv.loadA Try.isAgg28 Try.sizeOf28 rfl (.tmp rfl) (hcx)) rfl rfl rfl ?_
                refine LW.c (enter_call0 (.cons (.tmp rfl) .nil) (Try.en14)) rfl rfl rfl rfl (Key_any _ _) ?_
                rintro _ w23 ⟨rfl, uw23⟩
                have zw23 := uw23.size
                replace hS := hS.up uw23
                replace hUL := hUL.up uw23
                refine LW.p (PEv.move (.tmp rfl)) rfl rfl rfl ?_
                refine LW.p (PEv.neqStr (.tmp rfl) (.tmp rfl)) rfl rfl rfl ?_
                refine LW.nil ?_
                refine KW.then ?_
                refine CW.cond (.tmp rfl) (fun h92 => ?_) (fun h92 => ?_)
                · first | replace h92 := of_decide_eq_true h92 | replace h92 := of_decide_eq_false h92 | skip
                  have hne : keyB x ≠ (keyB f1) := by rw [key_iff] at h92; simpa using h92
                  obtain ⟨Bx, ox, ax, hcx⟩ := (Els.up hEb hUL) k x hx
                  have hfl := Nat.le_trans (filt_len (offKey (keyB f1)) (allN (ofB ((fewL 30 l).map vmin) d) 11) k) (show k ≤ 31 by omega)
                  -- region 23
                  refine CW.region ?_
                  refine LW.p (PEv.move (.tmp rfl)) rfl rfl rfl ?_
                  refine LW.p (PEv.move (.tmp rfl)) rfl rfl rfl ?_
                  refine LW.p (PEv.move (.tmp rfl)) rfl rfl rfl ?_
                  refine LW.p (PEv.indexAddr' Try.underlying22 Try.sizeOf28 (.tmp rfl) (.tmp rfl) (by omega) ax) rfl rfl rfl ?_
                  refine LW.p (PEv.loadA Try.isAgg28 Try.sizeOf28 rfl (.tmp rfl) (hcx)) rfl rfl rfl ?_
                  refine LW.r (REv.buildSlice (xs := [x]) (enc := Fact.cells) (mk := fun f : Fact => .agg f.cells) Try.underlying22 Try.sizeOf28 Try.zeroValue28 rfl (by decide) (fun _ => rfl) (fun _ => rfl) (.cons (.tmp rfl) .nil) rfl) rfl rfl rfl rfl ?_
                  rintro _ w24 ⟨B98, cB98, rfl, NB98, yB98, xB98⟩
                  have eB98 := NB98.at_
                  have zB98 := NB98.size
                  replace hS := hS.up NB98.up
                  replace hUL := hUL.up NB98.up
                  have hE98 := xB98
                  refine LW.r (REv.appendF (enc := Fact.cells) (bytes := 160) (i := Try.t28) Try.underlying22 (by kernel_rfl) rfl rfl rfl rfl (by decide) (fun _ => rfl) Fact.one (.tmp rfl) (.tmp rfl) (hS.own 0 rfl) (Sl.of_els hE98) (by have := hfl; simp [maxLen]; omega) (by have := hfl; simp; omega)) rfl rfl rfl rfl ?_
                  intro v99 w25 Gw25
                  have zw25 := Gw25.fr.size
                  replace hS := hS.stp 0 rfl Gw25
                  change Wx.Sep _ _ _ [_] at hS
                  refine LW.p (PEv.assign (.tmp rfl)) rfl rfl rfl ?_
                  refine LW.nil ?_
                  refine KW.inBlock ?_
                  refine KW.then ?_
                  -- region 21
                  refine CW.region ?_
                  refine LW.p (PEv.move (.tmp rfl)) rfl rfl rfl ?_
                  refine LW.p (PEv.inc (.tmp rfl) (by omega)) rfl rfl rfl ?_
                  refine LW.p (PEv.assign (.tmp rfl)) rfl rfl rfl ?_
                  refine LW.nil ?_
                  refine KW.round ?_
                  first | exact ⟨(k + 1, v99), ⟨by show k + 1 ≤ _; omega, by first | (rw [fp_yes hx (offKey_iff.2 hne)]; exact hS) | (rw [fp_no hx (by rw [Bool.eq_false_iff, ne_eq, offKey_iff]; exact fun h => h heq)]; exact hS), hS.upd⟩, ⟨rfl, rfl, rfl, rfl, rfl, rfl, rfl, rfl, rfl, trivial⟩, by show (allN (ofB ((fewL 30 l).map vmin) d) 11).length - (k + 1) < (allN (ofB ((fewL 30 l).map vmin) d) 11).length - k; omega⟩ | exact ⟨(k + 1, vw), ⟨by show k + 1 ≤ _; omega, by first | (rw [fp_yes hx (offKey_iff.2 hne)]; exact hS) | (rw [fp_no hx (by rw [Bool.eq_false_iff, ne_eq, offKey_iff]; exact fun h => h heq)]; exact hS), hS.upd⟩, ⟨rfl, rfl, rfl, rfl, rfl, rfl, rfl, rfl, rfl, trivial⟩, by show (allN (ofB ((fewL 30 l).map vmin) d) 11).length - (k + 1) < (allN (ofB ((fewL 30 l).map vmin) d) 11).length - k; omega⟩
                · first | replace h92 := of_decide_eq_true h92 | replace h92 := of_decide_eq_false h92 | skip
                  have heq : keyB x = (keyB f1) := by rw [key_iff] at h92; simpa using h92
                  refine CW.skip ?_
                  refine KW.inBlock ?_
                  refine KW.then ?_
                  -- region 21
                  refine CW.region ?_
                  refine LW.p (PEv.move (.tmp rfl)) rfl rfl rfl ?_
                  refine LW.p (PEv.inc (.tmp rfl) (by omega)) rfl rfl rfl ?_
                  refine LW.p (PEv.assign (.tmp rfl)) rfl rfl rfl ?_
                  refine LW.nil ?_
                  refine KW.round ?_
                  first | exact ⟨(k + 1, v99), ⟨by show k + 1 ≤ _; omega, by first | (rw [fp_yes hx (offKey_iff.2 hne)]; exact hS) | (rw [fp_no hx (by rw [Bool.eq_false_iff, ne_eq, offKey_iff]; exact fun h => h heq)]; exact hS), hS.upd⟩, ⟨rfl, rfl, rfl, rfl, rfl, rfl, rfl, rfl, rfl, trivial⟩, by show (allN (ofB ((fewL 30 l).map vmin) d) 11).length - (k + 1) < (allN (ofB ((fewL 30 l).map vmin) d) 11).length - k; omega⟩ | exact ⟨(k + 1, vw), ⟨by show k + 1 ≤ _; omega, by first | (rw [fp_yes hx (offKey_iff.2 hne)]; exact hS) | (rw [fp_no hx (by rw [Bool.eq_false_iff, ne_eq, offKey_iff]; exact fun h => h heq)]; exact hS), hS.upd⟩, ⟨rfl, rfl, rfl, rfl, rfl, rfl, rfl, rfl, rfl, trivial⟩, by show (allN (ofB ((fewL 30 l).map vmin) d) 11).length - (k + 1) < (allN (ofB ((fewL 30 l).map vmin) d) 11).length - k; omega⟩
              · first | replace h83 := of_decide_eq_true h83 | replace h83 := of_decide_eq_false h83 | skip
                refine CW.exit ?_
                refine KW.then_exit ?_
                refine KW.then_exit ?_
                refine KW.block_hit ?_
                refine KW.then ?_
                refine CW.seq ?_
                have hO13 := hS.own 0 rfl
                rw [show k = (allN (ofB ((fewL 30 l).map vmin) d) 11).length by omega, List.take_length] at hO13
                replace hW := hW.trans hUL
                replace hB4 := hB4.up hUL
                replace hBz := hBz.up hUL
                replace hC2 := hC2.up hUL
                -- region 24
                refine CW.region ?_
                refine LW.p (PEv.loadA Try.isAgg31 Try.sizeOf31 (hC2.size) (.tmp rfl) (hBz.agg)) rfl rfl rfl ?_
                refine LW.c (enter_call0 (.cons (.tmp rfl) .nil) (Try.en15)) rfl rfl rfl rfl (All_any bc2 _ _ hC2 (ofB_short (by simp; omega) d)) ?_
                rintro v101 w26 ⟨hO101, uw26⟩
                have zw26 := uw26.size
                replace hW := hW.up uw26
                replace hB4 := hB4.up uw26
                replace hBz := hBz.up uw26
                replace hC2 := hC2.up uw26
                replace hO13 := hO13.up uw26
                obtain ⟨ad17, cp17, rfl, hEn⟩ := hO101.sl (fun _ => rfl)
                have hln := allN_len (ofB_short (l := (((fewL 30 l).map vmin) ++ [f1])) (by simp; omega) d) 11
                refine LW.p (PEv.assign (.tmp rfl)) rfl rfl rfl ?_
                refine LW.nil ?_
                refine KW.then ?_
                refine CW.seq ?_
                -- region 25
                refine CW.region ?_
                refine LW.p (PEv.assign (.const _)) rfl rfl rfl ?_
                refine LW.nil ?_
                refine KW.then ?_
                refine CW.seq ?_
                refine CW.seq ?_
                have hS := (Sep.start no w26).add (Up.refl _) (A' := aOwn 28 19 Fact.cells (.slice none 0 0) ([] : List Fact)) (OwnS.nil _ _ _ _ _) (fun i h => by cases h)
                change Wx.Sep _ _ _ [_] at hS
                -- region 26
                refine CW.region ?_
                refine LW.p (PEv.assign (.const _)) rfl rfl rfl ?_
                refine LW.nil ?_
                refine KW.then ?_
                refine CW.block ?_
                refine CW.loopB (σ := Nat × Go.Value × Bool) (fun s w => (s.1 ≤ (allN (ofB (((fewL 30 l).map vmin) ++ [f1]) d) 11).length) ∧ (s.2.2 = ((allN (ofB (((fewL 30 l).map vmin) ++ [f1]) d) 11).take s.1).any fun y => decide (keyB y = (keyB f1))) ∧ (Wx.Sep no w26 w [aOwn 28 19 Fact.cells s.2.1 (((allN (ofB (((fewL 30 l).map vmin) ++ [f1]) d) 11).take s.1).filter (offKey (keyB f1)))]) ∧ (Up w26 w)) (fun s => [(19, .eq (vi (s.1 : Int))), (18, .eq (s.2.1)), (14, .eq (.bool s.2.2))]) ([(4, .eq _), (7, .eq _), (10, .eq _), (13, .eq _), (17, .eq _)]) (fun s => (allN (ofB (((fewL 30 l).map vmin) ++ [f1]) d) 11).length - s.1) (0, .slice none 0 0, false) ?_ ⟨rfl, rfl, rfl, rfl, rfl, rfl, rfl, rfl, trivial⟩ ?_
                · exact ⟨Nat.zero_le _, rfl, hS, hS.upd⟩
                · rintro ⟨k, vr, fnd⟩ w27 ⟨hk, hf, hS, hUL⟩
                  dsimp only at hk hf hS
                  change CW _ _ _ _ _ _ _ ([(19, .eq (vi (k : Int))), (18, .eq (vr)), (14, .eq (.bool fnd))] ++ _) _
                  refine CW.seq ?_
                  refine CW.seq ?_
                  -- region 27
                  refine CW.region ?_
                  refine LW.p (PEv.move (.tmp rfl)) rfl rfl rfl ?_
                  refine LW.p (PEv.move (.tmp rfl)) rfl rfl rfl ?_
                  refine LW.p (PEv.lenS Try.underlying22 (.tmp rfl)) rfl rfl rfl ?_
                  refine LW.p (PEv.lss (.tmp rfl) (.tmp rfl)) rfl rfl rfl ?_
                  refine LW.nil ?_
                  refine KW.then ?_
                  refine CW.cond (.tmp rfl) (fun h105 => ?_) (fun h105 => ?_)
                  · first | replace h105 := of_decide_eq_true h105 | replace h105 := of_decide_eq_false h105 | skip
                    refine CW.skip ?_
                    refine KW.then ?_
                    refine CW.seq ?_
                    refine CW.block ?_
                    refine CW.seq ?_
                    refine CW.seq ?_
                    obtain ⟨x, hx⟩ := getElem?_of_lt (xs := (allN (ofB (((fewL 30 l).map vmin) ++ [f1]) d) 11)) (i := k) (by omega)
                    obtain ⟨Bx, ox, ax, hcx⟩ := (Els.up hEn hUL) k x hx
                    cases hq29 : decide (keyB x = (keyB f1)) with
                    | true =>
                      have hxe := of_decide_eq_true hq29
                      have hxf : x = f1 := ((corr_key hk0 hday2 hv1 x hxe).1 (List.mem_of_getElem? hx)).1
                      have hf0 : fnd = false := by rw [hf]; exact find_once (all_nodup _ _ 11 (Nat.le_refl _)) (fun y hy e => ((corr_key hk0 hday2 hv1 y e).1 hy).1) hx hxe
                      -- region 29
                      refine CW.region ?_
                      refine LW.p (PEv.move (.tmp rfl)) rfl rfl rfl ?_
                      refine LW.p (PEv.move (.tmp rfl)) rfl rfl rfl ?_
                      refine LW.p (PEv.indexAddr' Try.underlying22 Try.sizeOf28 (.tmp rfl) (.tmp rfl) (by omega) ax) rfl rfl rfl ?_
                      refine LW.p (PEv.loadA Try.isAgg28 Try.sizeOf28 rfl (.tmp rfl) (hcx)) rfl rfl rfl ?_
                      refine LW.c (enter_call0 (.cons (.tmp rfl) .nil) (Try.en14)) rfl rfl rfl rfl (Key_any _ _) ?_
                      rintro _ w28 ⟨rfl, uw28⟩
                      have zw28 := uw28.size
                      replace hS := hS.up uw28
                      replace hUL := hUL.up uw28
                      refine LW.p (PEv.move (.tmp rfl)) rfl rfl rfl ?_
                      refine LW.p (PEv.tr (PEv.eqlStr (.tmp rfl) (.tmp rfl)) ((key_iff _ _).trans hq29)) rfl rfl rfl ?_
                      refine LW.nil ?_
                      refine KW.then ?_
                      refine CW.cond_true (.tmp rfl) ?_
                      refine CW.seq ?_
                      refine CW.seq ?_
                      obtain ⟨Bx, ox, ax, hcx⟩ := (Els.up hEn hUL) k x hx
                      -- region 30 draws its order
                      refine CW.draws (by kernel_rfl) (by kernel_rfl) rfl rfl ?_
                      refine HW.p (PEv.move (.tmp rfl)) rfl rfl ?_
                      refine HW.p (PEv.fa (PEv.move (.tmp rfl)) (hf0)) rfl rfl ?_
                      refine HW.yp rfl rfl rfl rfl rfl (PEv.move (.tmp rfl)) rfl ?_
                      refine HW.yp rfl rfl rfl rfl rfl (PEv.move (.tmp rfl)) rfl ?_
                      refine HW.yp rfl rfl rfl rfl rfl (PEv.indexAddr' Try.underlying22 Try.sizeOf28 (.tmp rfl) (.tmp rfl) (by omega) ax) rfl ?_
                      refine HW.yp rfl rfl rfl rfl rfl (PEv.loadA Try.isAgg28 Try.sizeOf28 rfl (.tmp rfl) (hcx)) rfl ?_
                      refine HW.yp rfl rfl rfl rfl rfl (PEv.loadA Try.isAgg28 Try.sizeOf28 rfl (.tmp rfl) ((hB4.up hUL).agg)) rfl ?_
                      refine HW.yp rfl rfl rfl rfl rfl (PEv.fa (PEv.neqA Try.eqGuardType28 (Try.eqFact _ _) (.tmp rfl) (.tmp rfl)) (by rw [hxf, eqb_refl]; rfl)) rfl ?_
                      refine HW.p (PEv.pick_or (.tmp rfl) (fun hp => (by first | exact .const _ | exact .tmp rfl | exact .cond rfl (by first | assumption | (rw [hp]; rfl) | simp_all)))) rfl rfl ?_
                      refine HW.nil ?_
                      intro w29 uw29
                      have zw29 := uw29.size
                      replace hS := hS.up uw29
                      replace hUL := hUL.up uw29
                      refine KW.then ?_
                      refine CW.cond_false (.tmp rfl) ?_
                      refine CW.skip ?_
                      refine KW.then ?_
                      refine CW.seq ?_
                      -- region 32
                      refine CW.region ?_
                      refine LW.p (PEv.assign (.const _)) rfl rfl rfl ?_
                      refine LW.nil ?_
                      refine KW.then ?_
                      refine CW.exit ?_
                      refine KW.then_exit ?_
                      refine KW.block_hit ?_
                      refine KW.then ?_
                      -- region 28
                      refine CW.region ?_
                      refine LW.p (PEv.move (.tmp rfl)) rfl rfl rfl ?_
                      refine LW.p (PEv.inc (.tmp rfl) (by omega)) rfl rfl rfl ?_
                      refine LW.p (PEv.assign (.tmp rfl)) rfl rfl rfl ?_
                      refine LW.nil ?_
                      refine KW.round ?_
                      first | exact ⟨(k + 1, v130, fnd), ⟨by show k + 1 ≤ _; omega, by rw [any_take _ hx, ← hf, hq29, Bool.or_false], by first | (rw [fp_yes hx (offKey_iff.2 (of_decide_eq_false hq29))]; exact hS) | (rw [fp_no hx (by rw [Bool.eq_false_iff, ne_eq, offKey_iff]; exact fun h => h (of_decide_eq_true hq29))]; exact hS), hS.upd⟩, ⟨rfl, rfl, rfl, rfl, rfl, rfl, rfl, rfl, trivial⟩, by show (allN (ofB (((fewL 30 l).map vmin) ++ [f1]) d) 11).length - (k + 1) < (allN (ofB (((fewL 30 l).map vmin) ++ [f1]) d) 11).length - k; omega⟩ | exact ⟨(k + 1, vr, true), ⟨by show k + 1 ≤ _; omega, by rw [any_take _ hx, hq29, Bool.or_true], by first | (rw [fp_yes hx (offKey_iff.2 (of_decide_eq_false hq29))]; exact hS) | (rw [fp_no hx (by rw [Bool.eq_false_iff, ne_eq, offKey_iff]; exact fun h => h (of_decide_eq_true hq29))]; exact hS), hS.upd⟩, ⟨rfl, rfl, rfl, rfl, rfl, rfl, rfl, rfl, trivial⟩, by show (allN (ofB (((fewL 30 l).map vmin) ++ [f1]) d) 11).length - (k + 1) < (allN (ofB (((fewL 30 l).map vmin) ++ [f1]) d) 11).length - k; omega⟩
                    | false =>
                      -- region 29
                      refine CW.region ?_
                      refine LW.p (PEv.move (.tmp rfl)) rfl rfl rfl ?_
                      refine LW.p (PEv.move (.tmp rfl)) rfl rfl rfl ?_
                      refine LW.p (PEv.indexAddr' Try.underlying22 Try.sizeOf28 (.tmp rfl) (.tmp rfl) (by omega) ax) rfl rfl rfl ?_
                      refine LW.p (PEv.loadA Try.isAgg28 Try.sizeOf28 rfl (.tmp rfl) (hcx)) rfl rfl rfl ?_
                      refine LW.c (enter_call0 (.cons (.tmp rfl) .nil) (Try.en14)) rfl rfl rfl rfl (Key_any _ _) ?_
                      rintro _ w30 ⟨rfl, uw30⟩
                      have zw30 := uw30.size
                      replace hS := hS.up uw30
                      replace hUL := hUL.up uw30
                      refine LW.p (PEv.move (.tmp rfl)) rfl rfl rfl ?_
                      refine LW.p (PEv.fa (PEv.eqlStr (.tmp rfl) (.tmp rfl)) ((key_iff _ _).trans hq29)) rfl rfl rfl ?_
                      refine LW.nil ?_
                      refine KW.then ?_
                      refine CW.cond_false (.tmp rfl) ?_
                      refine CW.skip ?_
                      refine KW.then ?_
                      obtain ⟨Bx, ox, ax, hcx⟩ := (Els.up hEn hUL) k x hx
                      have hfl := Nat.le_trans (filt_len (offKey (keyB f1)) (allN (ofB (((fewL 30 l).map vmin) ++ [f1]) d) 11) k) (show k ≤ 31 by omega)
                      -- region 33
                      refine CW.region ?_
                      refine LW.p (PEv.move (.tmp rfl)) rfl rfl rfl ?_
                      refine LW.p (PEv.move (.tmp rfl)) rfl rfl rfl ?_
                      refine LW.p (PEv.move (.tmp rfl)) rfl rfl rfl ?_
                      refine LW.p (PEv.indexAddr' Try.underlying22 Try.sizeOf28 (.tmp rfl) (.tmp rfl) (by omega) ax) rfl rfl rfl ?_
                      refine LW.p (PEv.loadA Try.isAgg28 Try.sizeOf28 rfl (.tmp rfl) (hcx)) rfl rfl rfl ?_
                      refine LW.r (REv.buildSlice (xs := [x]) (enc := Fact.cells) (mk := fun f : Fact => .agg f.cells) Try.underlying22 Try.sizeOf28 Try.zeroValue28 rfl (by decide) (fun _ => rfl) (fun _ => rfl) (.cons (.tmp rfl) .nil) rfl) rfl rfl rfl rfl ?_
                      rintro _ w31 ⟨B129, cB129, rfl, NB129, yB129, xB129⟩
                      have eB129 := NB129.at_
                      have zB129 := NB129.size
                      replace hS := hS.up NB129.up
                      replace hUL := hUL.up NB129.up
                      have hE129 := xB129
                      refine LW.r (REv.appendF (enc := Fact.cells) (bytes := 160) (i := Try.t28) Try.underlying22 (by kernel_rfl) rfl rfl rfl rfl (by decide) (fun _ => rfl) Fact.one (.tmp rfl) (.tmp rfl) (hS.own 0 rfl) (Sl.of_els hE129) (by have := hfl; simp [maxLen]; omega) (by have := hfl; simp; omega)) rfl rfl rfl rfl ?_
                      intro v130 w32 Gw32
                      have zw32 := Gw32.fr.size
                      replace hS := hS.stp 0 rfl Gw32
                      change Wx.Sep _ _ _ [_] at hS
                      refine LW.p (PEv.assign (.tmp rfl)) rfl rfl rfl ?_
                      refine LW.nil ?_
                      refine KW.inBlock ?_
                      refine KW.then ?_
                      -- region 28
                      refine CW.region ?_
                      refine LW.p (PEv.move (.tmp rfl)) rfl rfl rfl ?_
                      refine LW.p (PEv.inc (.tmp rfl) (by omega)) rfl rfl rfl ?_
                      refine LW.p (PEv.assign (.tmp rfl)) rfl rfl rfl ?_
                      refine LW.nil ?_
                      refine KW.round ?_
                      first | exact ⟨(k + 1, v130, fnd), ⟨by show k + 1 ≤ _; omega, by rw [any_take _ hx, ← hf, hq29, Bool.or_false], by first | (rw [fp_yes hx (offKey_iff.2 (of_decide_eq_false hq29))]; exact hS) | (rw [fp_no hx (by rw [Bool.eq_false_iff, ne_eq, offKey_iff]; exact fun h => h (of_decide_eq_true hq29))]; exact hS), hS.upd⟩, ⟨rfl, rfl, rfl, rfl, rfl, rfl, rfl, rfl, trivial⟩, by show (allN (ofB (((fewL 30 l).map vmin) ++ [f1]) d) 11).length - (k + 1) < (allN (ofB (((fewL 30 l).map vmin) ++ [f1]) d) 11).length - k; omega⟩ | exact ⟨(k + 1, vr, true), ⟨by show k + 1 ≤ _; omega, by rw [any_take _ hx, hq29, Bool.or_true], by first | (rw [fp_yes hx (offKey_iff.2 (of_decide_eq_false hq29))]; exact hS) | (rw [fp_no hx (by rw [Bool.eq_false_iff, ne_eq, offKey_iff]; exact fun h => h (of_decide_eq_true hq29))]; exact hS), hS.upd⟩, ⟨rfl, rfl, rfl, rfl, rfl, rfl, rfl, rfl, trivial⟩, by show (allN (ofB (((fewL 30 l).map vmin) ++ [f1]) d) 11).length - (k + 1) < (allN (ofB (((fewL 30 l).map vmin) ++ [f1]) d) 11).length - k; omega⟩
                  · first | replace h105 := of_decide_eq_true h105 | replace h105 := of_decide_eq_false h105 | skip
                    refine CW.exit ?_
                    refine KW.then_exit ?_
                    refine KW.then_exit ?_
                    refine KW.block_hit ?_
                    refine KW.then ?_
                    refine CW.seq ?_
                    have hke : k = (allN (ofB (((fewL 30 l).map vmin) ++ [f1]) d) 11).length := by omega
                    rw [hke, List.take_length] at hS hf
                    have hfin : fnd = !f1.Gone := hf.trans (corr_found hk0 hday2 hv1)
                    obtain ⟨adr, cpr, rfl, hEr⟩ := (hS.own 0 rfl).sl (fun _ => rfl)
                    obtain ⟨adw, cpw, rfl, hEw⟩ := (hO13.up hUL).sl (fun _ => rfl)
                    have hrest := corr_rest hk0 hday2 hv1 11 (Nat.le_refl _)
                    have hlr : ((allN (ofB (((fewL 30 l).map vmin) ++ [f1]) d) 11).filter (offKey (keyB f1))).length ≤ 100000 := by have := List.length_filter_le (offKey (keyB f1)) (allN (ofB (((fewL 30 l).map vmin) ++ [f1]) d) 11); omega
                    -- region 34
                    refine CW.region ?_
                    refine LW.p (PEv.move (.tmp rfl)) rfl rfl rfl ?_
                    refine LW.p (PEv.move (.tmp rfl)) rfl rfl rfl ?_
                    refine LW.yes rfl rfl rfl rfl rfl rfl ?_
                    refine LW.p (PEv.move (.tmp rfl)) rfl rfl rfl ?_
                    refine LW.yes rfl rfl rfl rfl rfl rfl ?_
                    refine LW.p (PEv.fieldAddr (off := 4) Try.underlying28 rfl rfl Try.sizeOf4 rfl (.tmp rfl)) rfl rfl rfl ?_
                    refine LW.yes rfl rfl rfl rfl rfl rfl ?_
                    refine LW.p (PEv.load Try.isAgg4 (.tmp rfl) ((hB4.up hUL).celln rfl)) rfl rfl rfl ?_
                    refine LW.yes rfl rfl rfl rfl rfl rfl ?_
                    refine LW.p (PEv.not (.tmp rfl)) rfl rfl rfl ?_
                    refine LW.yes rfl rfl rfl rfl rfl rfl ?_
                    refine LW.p (PEv.tr (PEv.eqlB Try.underlying4 (.tmp rfl) (.tmp rfl)) (by rw [hfin]; simp)) rfl rfl rfl ?_
                    refine LW.p (PEv.pick_and (.tmp rfl) (fun hp => (by first | exact .const _ | exact .tmp rfl | exact .cond rfl (by first | assumption | (rw [hp]; rfl) | simp_all)))) rfl rfl rfl ?_
                    refine LW.p (PEv.move (.tmp rfl)) rfl rfl rfl ?_
                    refine LW.yes rfl rfl rfl rfl rfl rfl ?_
                    refine LW.p (PEv.move (.tmp rfl)) rfl rfl rfl ?_
                    refine LW.yes rfl rfl rfl rfl rfl rfl ?_
                    refine LW.p (PEv.move (.tmp rfl)) rfl rfl rfl ?_
                    refine LW.yes rfl rfl rfl rfl rfl rfl ?_
                    refine LW.c (enter_call0 (.cons (.tmp rfl) (.cons (.tmp rfl) .nil)) (Try.en16)) rfl rfl rfl rfl (sameFacts_any _ _ _ _ _ _ _ hEr hEw hlr) ?_
                    rintro _ w33 ⟨rfl, uw33⟩
                    have zw33 := uw33.size
                    replace hUL := hUL.up uw33
                    rw [hrest, eqFs_refl]
                    refine LW.p (PEv.pick_and (.tmp rfl) (fun hp => (by first | exact .const _ | exact .tmp rfl | exact .cond rfl (by first | assumption | (rw [hp]; rfl) | simp_all)))) rfl rfl rfl ?_
                    refine LW.p (PEv.assign (.tmp rfl)) rfl rfl rfl ?_
                    refine LW.nil ?_
                    refine KW.then ?_
                    refine CW.ret ?_
                    refine KW.ret1 rfl rfl ⟨_, rfl, ?_⟩
                    first | exact ⟨rfl, hW.trans hUL⟩ | exact ⟨rfl, hW⟩

end Go.Proofs.Ytdelcaegofkknaa
