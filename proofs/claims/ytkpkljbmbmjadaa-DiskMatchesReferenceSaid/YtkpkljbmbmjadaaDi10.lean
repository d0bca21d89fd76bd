import Derived.Test.YtkpkljbmbmjadaaDi9
namespace Go.Wx

def eBool (b : Bool) : Array Go.Value := #[.bool b]
def kp (ks : List Bool) (i : Nat) : Bool := ks.getD i false
def keptN (ks : List Bool) (k : Nat) : List Nat := (List.range k).filter (kp ks)
def lastOf (ks : List Bool) : Nat → Int
  | 0 => -1
  | k + 1 => if kp ks k then (k : Int) else lastOf ks k
def wrOf (l : List WP) (n i : Nat) : Wr := match l[i]? with | some x => ⟨(fitO x n : Int), fitS x n⟩ | none => ⟨0, ByteArray.empty⟩
def tearL (last torn : Int) (i : Nat) (x : Wr) : Wr := if (i : Int) = last ∧ 0 ≤ torn then ⟨x.off, cutB x.s torn⟩ else x
def wsK (l : List WP) (ks : List Bool) (n : Nat) (last torn : Int) (k : Nat) : List Wr := (keptN ks k).map fun i => tearL last torn i (wrOf l n i)
def numsK (ks : List Bool) (k : Nat) : List Int := ((keptN ks k).map fun i : Nat => (i : Int)).reverse
theorem keptN_succ (ks : List Bool) (k : Nat) : keptN ks (k + 1) = keptN ks k ++ (if kp ks k = true then [k] else []) := by
  unfold keptN
  rw [List.range_succ, List.filter_append]
  congr 1
  by_cases h : kp ks k = true <;> simp [h]
theorem keptN_lt (ks : List Bool) (k : Nat) : (keptN ks k).Pairwise fun x y => x < y := List.pairwise_lt_range.filter _
theorem keptN_mem {ks : List Bool} {k i : Nat} (h : i ∈ keptN ks k) : i < k := List.mem_range.1 (List.mem_filter.1 h).1
theorem lastOf_eq (ks : List Bool) : ∀ m, lastOf ks m = match (keptN ks m).getLast? with | none => -1 | some i => (i : Int)
  | 0 => rfl
  | m + 1 => by
    rw [keptN_succ]
    unfold lastOf
    by_cases h : kp ks m = true
    · rw [if_pos h, if_pos h, List.getLast?_append]; rfl
    · rw [if_neg h, if_neg h, List.append_nil]; exact lastOf_eq ks m
theorem last_iff {ks : List Bool} {m idx i : Nat} (h : (keptN ks m)[idx]? = some i) : idx + 1 = (keptN ks m).length ↔ (i : Int) = lastOf ks m := by
  obtain ⟨hlt, hi⟩ := List.getElem?_eq_some_iff.1 h
  rw [lastOf_eq, List.getLast?_eq_getElem?]
  have hl : (keptN ks m)[(keptN ks m).length - 1]? = some (keptN ks m)[(keptN ks m).length - 1] := by rw [List.getElem?_eq_getElem]
  rw [hl]
  dsimp only
  constructor
  · intro e
    have : idx = (keptN ks m).length - 1 := by omega
    subst this
    rw [hi]
  · intro e
    rcases Nat.lt_or_ge idx ((keptN ks m).length - 1) with h2 | h2
    · have := List.pairwise_iff_getElem.1 (keptN_lt ks m) idx ((keptN ks m).length - 1) hlt (by omega) h2
      omega
    · omega
theorem cut_tear (s : ByteArray) (torn : Int) : s.extract 0 (if (s.size : Int) < torn then (s.size : Int) else torn).toNat = cutB s torn := by
  unfold cutB
  congr 2
  split <;> split <;> omega
structure CB (z : DS) (l : List WP) (n : Nat) (c : List UInt8) (k : Nat) : Prop where
  calm : DCalm z n k
  plen : z.pend.length = k
  pend : ∀ i, i < k → z.pend[i]? = some (wrOf l n i)
  dur : z.dur = c
theorem CB.put {z : DS} {l : List WP} {n k : Nat} {c : List UInt8} {x : WP} (h : CB z l n c k) (hx : l[k]? = some x) : CB (putS z (fitO x n : Int) (fitS x n)) l n c (k + 1) := by
  refine ⟨h.calm.put _ _, by simp [putS, h.plen], fun i hi => ?_, h.dur⟩
  show (z.pend ++ [_])[i]? = _
  by_cases h2 : i < k
  · rw [List.getElem?_append_left (by rw [h.plen]; exact h2)]; exact h.pend i h2
  · have : i = k := by omega
    subst this
    rw [List.getElem?_append_right (by rw [h.plen]; exact Nat.le_refl _), h.plen]
    simp [wrOf, hx]
theorem order_nums (ks : List Bool) (m : Nat) : orderS (numsK ks m) m = (keptN ks m).map fun i : Nat => (i : Int) := by
  refine orderS_asc (List.reverse_perm _) ?_ ?_
  · rw [List.pairwise_map]
    exact (keptN_lt ks m).imp fun h => by omega
  · intro x hx
    obtain ⟨i, hi, rfl⟩ := List.mem_map.1 hx
    have := keptN_mem hi
    omega
theorem crash_kept {z : DS} {l : List WP} {ks : List Bool} {n m : Nat} {c : List UInt8} (h : CB z l n c m) (torn : Int) : crashS z (numsK ks m) torn = ⟨false, 0, applyAll c (wsK l ks n (lastOf ks m) torn m), applyAll c (wsK l ks n (lastOf ks m) torn m), []⟩ := by
  have e : crashWs z ((keptN ks m).map fun i : Nat => (i : Int)) torn = wsK l ks n (lastOf ks m) torn m := by
    apply List.ext_getElem?
    intro idx
    by_cases hx : idx < (keptN ks m).length
    · obtain ⟨i, hi⟩ := getElem?_of_lt hx
      have him := keptN_mem (List.mem_of_getElem? hi)
      rw [crashWs_at (x := wrOf l n i) (j := i) (by rw [List.getElem?_map, hi]; rfl) (h.pend i him)]
      unfold wsK
      rw [List.getElem?_map, hi]
      simp only [Option.map_some, List.length_map]
      unfold tearAt tearL
      by_cases hl : (i : Int) = lastOf ks m ∧ 0 ≤ torn
      · rw [if_pos hl, if_pos ⟨(last_iff hi).2 hl.1, hl.2⟩, cut_tear]
      · rw [if_neg hl, if_neg (fun h2 => hl ⟨(last_iff hi).1 h2.1, h2.2⟩)]
    · rw [List.getElem?_eq_none (by rw [crashWs_length, List.length_map]; omega), List.getElem?_eq_none (by simp only [wsK, List.length_map]; omega)]
  unfold crashS
  rw [h.plen, order_nums, e, h.dur]
theorem numsK_yes {ks : List Bool} {k : Nat} (h : kp ks k = true) : numsK ks (k + 1) = [(k : Int)] ++ numsK ks k := by unfold numsK; rw [keptN_succ, if_pos h]; simp
theorem numsK_no {ks : List Bool} {k : Nat} (h : kp ks k = false) : numsK ks (k + 1) = numsK ks k := by unfold numsK; rw [keptN_succ, if_neg (by simp [h])]; simp
theorem numsK_le (ks : List Bool) (k : Nat) : (numsK ks k).length ≤ k := by
  unfold numsK keptN
  rw [List.length_reverse, List.length_map]
  exact Nat.le_trans (List.length_filter_le _ _) (by simp)
theorem wsK_yes {l : List WP} {ks : List Bool} {n k : Nat} {last torn : Int} {x : WP} (h : kp ks k = true) (hx : l[k]? = some x) (c : List UInt8) : applyAll c (wsK l ks n last torn (k + 1)) = overlay (applyAll c (wsK l ks n last torn k)) (fitO x n) (tearL last torn k ⟨(fitO x n : Int), fitS x n⟩).s.data.toList := by
  unfold wsK
  rw [keptN_succ, if_pos h, List.map_append, List.map_cons, List.map_nil, applyAll_snoc]
  have e : wrOf l n k = ⟨(fitO x n : Int), fitS x n⟩ := by simp [wrOf, hx]
  rw [e]
  have e2 : (tearL last torn k ⟨(fitO x n : Int), fitS x n⟩).off = (fitO x n : Int) := by unfold tearL; split <;> rfl
  rw [e2, Int.toNat_natCast]
theorem wsK_no {l : List WP} {ks : List Bool} {n k : Nat} {last torn : Int} (h : kp ks k = false) : wsK l ks n last torn (k + 1) = wsK l ks n last torn k := by unfold wsK; rw [keptN_succ, if_neg (by simp [h])]; simp
theorem lastOf_yes {ks : List Bool} {k : Nat} (h : kp ks k = true) : lastOf ks (k + 1) = (k : Int) := by show (if kp ks k then _ else _) = _; rw [h]; rfl
theorem lastOf_no {ks : List Bool} {k : Nat} (h : kp ks k = false) : lastOf ks (k + 1) = lastOf ks k := by show (if kp ks k then _ else _) = _; rw [h]; rfl
theorem wsK_length {l : List WP} {ks : List Bool} {n k : Nat} {last torn : Int} {c : List UInt8} (hc : c.length = n) (hl : ∀ x ∈ l, WOk x) (hk : k ≤ l.length) : (applyAll c (wsK l ks n last torn k)).length = n := by
  rw [applyAll_length, hc]
  intro y hy
  obtain ⟨i, hi, rfl⟩ := List.mem_map.1 hy
  obtain ⟨x, hx⟩ := getElem?_of_lt (xs := l) (i := i) (by have := keptN_mem hi; omega)
  have e : wrOf l n i = ⟨(fitO x n : Int), fitS x n⟩ := by simp [wrOf, hx]
  rw [e, hc]
  have h1 := fit_le (n := n) (hl x (List.mem_of_getElem? hx)).off
  unfold tearL
  split
  · have := extract_size (fitS x n) (if torn < ((fitS x n).size : Int) then torn else ((fitS x n).size : Int)).toNat
    show (fitO x n : Int).toNat + (cutB (fitS x n) torn).size ≤ n
    rw [Int.toNat_natCast]
    unfold cutB
    omega
  · show (fitO x n : Int).toNat + (fitS x n).size ≤ n
    rw [Int.toNat_natCast]; exact h1
theorem overlay_full {a c : List UInt8} (h : a.length = c.length) : overlay a 0 c = c := by
  unfold overlay
  rw [List.take_zero, Nat.zero_add, List.drop_eq_nil_of_le (by omega)]
  simp
theorem init_disk {n : Nat} {c : List UInt8} (hc : c.length = n) : ({ putS (newS n) ((0 : Nat) : Int) ⟨c.toArray⟩ with dur := (putS (newS n) ((0 : Nat) : Int) ⟨c.toArray⟩).vis, pend := [] } : DS) = ⟨false, 0, c, c, []⟩ := by
  have e : (putS (newS n) ((0 : Nat) : Int) ⟨c.toArray⟩).vis = c := by
    show overlay (List.replicate n 0) 0 c = c
    exact overlay_full (by simp [hc])
  simp only [e]
  have e2 : (putS (newS n) ((0 : Nat) : Int) ⟨c.toArray⟩) = ⟨false, 0, List.replicate n 0, (putS (newS n) ((0 : Nat) : Int) ⟨c.toArray⟩).vis, (putS (newS n) ((0 : Nat) : Int) ⟨c.toArray⟩).pend⟩ := rfl
  rw [e2]
theorem cb0 {n : Nat} {c : List UInt8} (l : List WP) (hc : c.length = n) : CB ⟨false, 0, c, c, []⟩ l n c 0 := ⟨calm_plain hc, rfl, fun i h => by omega, rfl⟩
theorem kp_at {ks : List Bool} {k : Nat} {b : Bool} (h : ks[k]? = some b) : kp ks k = b := by simp [kp, List.getD, h]
theorem kp_out {ks : List Bool} {k : Nat} (h : ks.length ≤ k) : kp ks k = false := by simp [kp, List.getD, List.getElem?_eq_none h]
theorem newAt {w : World} {B : Nat} {cs : Array Go.Value} {e : TypeId} {x : Int} (h : Els w (some ⟨B, 0, none⟩) 1 eInt [x]) (hb : Blk w B cs e) : cs[0]? = some (vi x) := by
  obtain ⟨B', o', e', hc⟩ := h 0 x rfl
  cases e'
  have h1 : w.cell? ⟨B, 0 + 0 * 1 + 0, none⟩ = some (vi x) := hc 0 (vi x) rfl
  have hb' : w.heap[B]? = some (.cells cs e (0, 0)) := hb
  simpa [World.cell?, hb'] using h1
/-- a slice just laid is one's own -/
theorem newOwn {w w' : World} {e B : Nat} {cs : Array Go.Value} {x : Int} (N : New w w' B cs e) (hs : cs.size = 1) (hx : cs[0]? = some (vi x)) : OwnS w' 0 e 1 eInt (.slice (some ⟨B, 0, none⟩) 1 1) [x] := by
  refine ⟨rfl, .inr ⟨B, 1, cs, rfl, Nat.zero_le _, N.blk, Nat.le_refl _, by simp [maxLen], hs, ?_⟩⟩
  obtain ⟨l⟩ := cs
  match l, hs with
  | [a], _ =>
    have : a = vi x := by simpa using hx
    subst this; rfl

end Go.Wx
namespace Go.Proofs.Ytkpkljbmbmjadaa
open Go.Wx Go.RowKit
set_option maxHeartbeats 8000000 in
theorem DiskCrashBytes_any (size : Int) (ad : Option Addr) (cp : Nat) (l : List WP) (adk : Option Addr) (cpk : Nat) (ks : List Bool) (torn : Int) (w : World) (hs : inI size) (hE0 : Els w ad 3 WP.cells l) (hl : ∀ x ∈ l, WOk x) (hK0 : Els w adk 1 eBool ks) : Ret Try.prog 8 #[vi size, .slice ad l.length cp, .slice adk ks.length cpk, vi torn] w fun r w' => r = .bool true ∧ Up w w' := by
  obtain ⟨w0, rfl⟩ : ∃ w0, w0 = w := ⟨_, rfl⟩
  have hS := Sep.start no w0
  obtain ⟨m, hm⟩ : ∃ m, m = min l.length 20 := ⟨_, rfl⟩
  refine Calls_start (n := 158) (m := 9) Try.func8 rfl rfl rfl ?_
  refine CW.seq (CW.region (LW.p (PEv.assign (.const _)) rfl rfl rfl (LW.nil (KW.then (CW.seq (CW.region ?_))))))
  refine LW.c (enter_call0 .nil (Try.en12)) rfl rfl rfl rfl (sane_any _) ?_
  rintro _ w1 ⟨rfl, uw1⟩
  have zw1 := uw1.size
  replace hS := hS.up uw1
  refine LW.p (PEv.assign (.tmp rfl)) rfl rfl rfl (LW.nil (KW.then (CW.seq (CW.region (LW.p (PEv.move (.tmp rfl)) rfl rfl rfl ?_)))))
  refine LW.c (enter_call0 (.cons (.tmp rfl) (.cons (.const _) .nil)) (Try.en15)) rfl rfl rfl rfl (pick_any _ _ _ hs (by decide)) ?_
  rintro _ w2 ⟨rfl, uw2⟩
  have zw2 := uw2.size
  replace hS := hS.up uw2
  obtain ⟨hp0, hp1⟩ := pick_range (c := size) (n := 100) hs (by decide)
  obtain ⟨p, hp⟩ : ∃ p : Nat, pickI size 100 = p := ⟨(pickI size 100).toNat, by omega⟩
  rw [hp]
  refine LW.p (PEv.addN (i := 1) (.const _) (.tmp rfl) (by omega)) rfl rfl rfl ?_
  refine LW.p (PEv.assign (.tmp rfl)) rfl rfl rfl (LW.nil (KW.then (CW.seq (CW.region (LW.p (PEv.move (.tmp rfl)) rfl rfl rfl ?_)))))
  refine LW.c (enter_call0 (.cons (.tmp rfl) .nil) (Try.en13)) rfl rfl rfl rfl (New_ok (1 + p) _ (by omega) (by omega)) ?_
  rintro _ w3 ⟨D, rfl, hD0, hDf, uw3⟩
  have zw3 := uw3.size
  replace hS := hS.add uw3 (A' := aDisk D (newS (1 + p))) (hD0) (hDf)
  change Wx.Sep _ _ _ [_] at hS
  obtain ⟨n, hn⟩ : ∃ n, n = 1 + p := ⟨_, rfl⟩
  rw [← hn] at hS ⊢
  refine LW.p (PEv.move (.tmp rfl)) rfl rfl rfl (LW.p (PEv.extract (.tmp rfl) rfl) rfl rfl rfl (LW.p (PEv.extract (.tmp rfl) rfl) rfl rfl rfl (LW.p (PEv.assign (.tmp rfl)) rfl rfl rfl (LW.p (PEv.assign (.tmp rfl)) rfl rfl rfl (LW.nil (KW.then (CW.seq (CW.seq (CW.region (LW.p (PEv.move (.tmp rfl)) rfl rfl rfl ?_))))))))))
  refine LW.p (PEv.fa (PEv.neq (.tmp rfl) (.const _)) (rfl)) rfl rfl rfl ?_
  refine LW.nil (KW.then ?_)
  refine CW.cond_false (.tmp rfl) ?_
  refine CW.skip (KW.then (CW.seq (CW.region (LW.p (PEv.move (.tmp rfl)) rfl rfl rfl ?_))))
  refine LW.r (REv.makeBytes (i := Try.t5) Try.underlying40 (by kernel_rfl) rfl rfl rfl (.tmp rfl) (.tmp rfl) (by omega)) rfl rfl rfl rfl ?_
  rintro _ w4 ⟨B8, rfl, NB8⟩
  have eB8 := NB8.at_
  have zB8 := NB8.size
  replace hS := hS.addB NB8
  change Wx.Sep _ _ _ [_, _] at hS
  refine LW.p (PEv.assign (.tmp rfl)) rfl rfl rfl (LW.nil (KW.then (CW.seq (CW.seq (CW.region (LW.p (PEv.assign (.const _)) rfl rfl rfl (LW.nil (KW.then (CW.block ?_)))))))))
  refine CW.loopB (σ := Nat × List UInt8) (fun s w => (s.1 ≤ n ∧ s.2.length = n) ∧ (Sep no w0 w [aDisk D (newS n), aBlk B8 (byc s.2) 5])) (fun s => [(13, .eq (vi (s.1 : Int)))]) ([(0, .eq _), (1, .eq _), (2, .eq _), (3, .eq _), (8, .eq _), (9, .eq _), (10, .eq _), (12, .eq _)]) (fun s => n - s.1) (0, List.replicate n 0) ?_ ⟨rfl, rfl, rfl, rfl, rfl, rfl, rfl, rfl, rfl, trivial⟩ ?_
  ·exact ⟨⟨Nat.zero_le _, by simp⟩, hS⟩
  ·rintro ⟨k, c⟩ w5 ⟨hc, hS⟩
   dsimp only at hc hS
   refine CW.seq (CW.seq (CW.region (LW.p (PEv.move (.tmp rfl)) rfl rfl rfl (LW.p (PEv.move (.tmp rfl)) rfl rfl rfl ?_))))
   refine LW.p (PEv.lss (.tmp rfl) (.tmp rfl)) rfl rfl rfl ?_
   refine LW.nil (KW.then ?_)
   refine CW.cond (.tmp rfl) (fun h38 => ?_) (fun h38 => ?_)
   ·first | replace h38 := of_decide_eq_true h38 | replace h38 := of_decide_eq_false h38 | skip
    refine CW.skip (KW.then (CW.seq (CW.block (CW.region (LW.p (PEv.move (.tmp rfl)) rfl rfl rfl (LW.p (PEv.move (.tmp rfl)) rfl rfl rfl (LW.p (PEv.move (.tmp rfl)) rfl rfl rfl ?_)))))))
    refine LW.p (PEv.remN (j := 10) (.tmp rfl) (by decide)) rfl rfl rfl ?_
    refine LW.p (PEv.addN (i := 48) (.const _) (.tmp rfl) (by omega)) rfl rfl rfl ?_
    refine LW.p (PEv.toByte (by rw [Try.underlying3]; rfl) Try.underlying5 (.tmp rfl)) rfl rfl rfl ?_
    refine LW.p (PEv.indexAddr Try.underlying40 Try.sizeOf5 (.tmp rfl) (.tmp rfl) (by omega)) rfl rfl rfl ?_
    refine LW.s (SEv.store Try.sizeOf5 (.tmp rfl) (.tmp rfl) rfl (hS.blk 1 rfl) (by rw [byc_size]; omega)) rfl rfl rfl ?_
    intro w6 Nw6
    have zw6 := Nw6.size
    replace hS := hS.putB 1 rfl Nw6
    change Wx.Sep _ _ _ [_, _] at hS
    refine LW.nil (KW.inBlock (KW.then ?_))
    rw [Nat.zero_add, Nat.mul_one, byc_set] at hS
    refine CW.region (LW.p (PEv.move (.tmp rfl)) rfl rfl rfl ?_)
    refine LW.p (PEv.inc (.tmp rfl) (by omega)) rfl rfl rfl ?_
    refine LW.p (PEv.assign (.tmp rfl)) rfl rfl rfl (LW.nil (KW.round ?_))
    exact ⟨(k + 1, c.set k (UInt8.ofNat (48 + k % 10))), ⟨⟨by omega, by simp; exact hc.2⟩, hS⟩, ⟨rfl, rfl, rfl, rfl, rfl, rfl, rfl, rfl, rfl, trivial⟩, by first | omega | (dsimp only; omega)⟩
   ·first | replace h38 := of_decide_eq_true h38 | replace h38 := of_decide_eq_false h38 | skip
    refine CW.exit (KW.then_exit (KW.then_exit (KW.block_hit (KW.then (CW.seq (CW.seq ?_))))))
    have hkn : k = n := by omega
    refine CW.region (LW.p (PEv.move (.tmp rfl)) rfl rfl rfl (LW.p (PEv.move (.tmp rfl)) rfl rfl rfl ?_))
    refine LW.p (PEv.bytesStr0 Try.underlying40 Try.underlying5 Try.underlying9 (.tmp rfl) (hS.blk 1 rfl) hc.2) rfl rfl rfl ?_
    refine LW.c (enter_call0 (.cons (.tmp rfl) (.cons (.const _) (.cons (.tmp rfl) .nil))) (Try.en21)) rfl rfl rfl rfl (Write_b _ _ (newS n) _ (hS.get 0 rfl) rfl ((0 : Nat) : Int) ⟨c.toArray⟩ (by simp [newS])) ?_
    rintro _ w7 ⟨rfl, pv_w7, uw7⟩
    have zw7 := uw7.fr.size
    replace hS := hS.stp 0 rfl uw7
    change Wx.Sep _ _ _ [_, _] at hS
    have hw0 := (DCalm.new n).write (j := 0) (s := ⟨c.toArray⟩) (by show 0 + c.toArray.size ≤ n; simp; omega)
    rw [hw0.1]
    rw [hw0.2] at hS
    refine LW.p (PEv.fa (PEv.neq (.tmp rfl) (.const _)) (rfl)) rfl rfl rfl ?_
    refine LW.p (PEv.move (.tmp rfl)) rfl rfl rfl ?_
    refine LW.yes rfl rfl rfl rfl rfl rfl ?_
    refine LW.p (PEv.move (.tmp rfl)) rfl rfl rfl ?_
    refine LW.yes rfl rfl rfl rfl rfl rfl ?_
    refine LW.c (enter_call0 (.cons (.tmp rfl) .nil) (Try.en23)) rfl rfl rfl rfl (Sync_b _ _ _ _ (hS.get 0 rfl) rfl) ?_
    rintro _ w8 ⟨rfl, pv0, uw8⟩
    have zw8 := uw8.fr.size
    replace hS := hS.stp 0 rfl uw8
    change Wx.Sep _ _ _ [_, _] at hS
    have hs0 := ((DCalm.new n).put ((0 : Nat) : Int) ⟨c.toArray⟩).sync
    rw [hs0.1]
    rw [hs0.2, init_disk hc.2] at hS
    refine LW.yes rfl rfl rfl rfl rfl rfl ?_
    refine LW.p (PEv.fa (PEv.neq (.tmp rfl) (.const _)) (rfl)) rfl rfl rfl ?_
    refine LW.p (PEv.pick_or (.tmp rfl) (fun hp => (by first | exact .const _ | exact .tmp rfl | exact .cond rfl (by first | assumption | simp_all)))) rfl rfl rfl ?_
    refine LW.nil (KW.then ?_)
    refine CW.cond_false (.tmp rfl) ?_
    refine CW.skip (KW.then (CW.seq (CW.region (LW.p (PEv.assign (.const _)) rfl rfl rfl (LW.nil (KW.then (CW.seq (CW.seq (CW.region (LW.p (PEv.assign (.const _)) rfl rfl rfl (LW.nil (KW.then (CW.block ?_)))))))))))))
    refine CW.loopB (σ := Nat) (fun s w => (s ≤ l.length ∧ s ≤ 20) ∧ (Sep no w0 w [aDisk { D with pv := pv0 } ⟨false, 0, c, c, []⟩, aBlk B8 (byc c) 5])) (fun s => [(15, .eq (vi (s : Int))), (14, .eq (vi (lastOf ks s)))]) ([(0, .eq _), (1, .eq _), (2, .eq _), (3, .eq _), (8, .eq _), (9, .eq _), (10, .eq _), (12, .eq _)]) (fun s => l.length - s) 0 ?_ ⟨rfl, rfl, rfl, rfl, rfl, rfl, rfl, rfl, rfl, rfl, trivial⟩ ?_
    ·exact ⟨⟨Nat.zero_le _, by omega⟩, hS⟩
    ·rintro k w9 ⟨hk2, hS⟩
     refine CW.seq (CW.seq (CW.region (LW.p (PEv.move (.tmp rfl)) rfl rfl rfl (LW.p (PEv.move (.tmp rfl)) rfl rfl rfl ?_))))
     refine LW.p (PEv.lenS Try.underlying51 (.tmp rfl)) rfl rfl rfl ?_
     refine LW.p (PEv.lss (.tmp rfl) (.tmp rfl)) rfl rfl rfl ?_
     refine LW.p (PEv.move (.tmp rfl)) rfl rfl rfl ?_
     refine LW.g rfl rfl rfl rfl rfl rfl rfl (fun hc => PEv.move (.tmp rfl)) ?_
     refine LW.g rfl rfl rfl rfl rfl rfl rfl (fun hc => PEv.lss (by first | exact .tmp rfl | exact .cond rfl (by first | assumption | simp_all)) (.const _)) ?_
     refine LW.p (PEv.pick_and (.tmp rfl) (fun hp => (by first | exact .const _ | exact .tmp rfl | exact .cond rfl (by first | assumption | simp_all)))) rfl rfl rfl ?_
     refine LW.nil (KW.then ?_)
     refine CW.cond (.tmp rfl) (fun h65 => ?_) (fun h65 => ?_)
     ·first | replace h65 := of_decide_eq_true h65 | replace h65 := of_decide_eq_false h65 | skip
      refine CW.skip (KW.then (CW.seq (CW.block (CW.seq ?_))))
      have hkl : k < l.length ∧ k < 20 := by simp at h65; omega
      cases hq17 : decide (k < ks.length) with
      | true =>
       have hkl2 := of_decide_eq_true hq17
       obtain ⟨b, hb⟩ := getElem?_of_lt (xs := ks) (i := k) hkl2
       obtain ⟨Bb, ob, hab, hcb⟩ := (hK0.up hS.upd) _ b hb
       refine CW.region (LW.p (PEv.move (.tmp rfl)) rfl rfl rfl (LW.p (PEv.move (.tmp rfl)) rfl rfl rfl ?_))
       refine LW.p (PEv.lenS Try.underlying58 (.tmp rfl)) rfl rfl rfl ?_
       refine LW.p (PEv.tr (PEv.lss (.tmp rfl) (.tmp rfl)) (decide_eq_true (by omega))) rfl rfl rfl ?_
       refine LW.p (PEv.move (.tmp rfl)) rfl rfl rfl ?_
       refine LW.yes rfl rfl rfl rfl rfl rfl ?_
       refine LW.p (PEv.move (.tmp rfl)) rfl rfl rfl ?_
       refine LW.yes rfl rfl rfl rfl rfl rfl ?_
       refine LW.p (PEv.move (.tmp rfl)) rfl rfl rfl ?_
       refine LW.yes rfl rfl rfl rfl rfl rfl ?_
       refine LW.p (PEv.indexAddr' Try.underlying58 Try.sizeOf4 (.tmp rfl) (.tmp rfl) (by omega) hab) rfl rfl rfl ?_
       refine LW.yes rfl rfl rfl rfl rfl rfl ?_
       refine LW.p (PEv.load Try.isAgg4 (.tmp rfl) (hcb.nth (j := 0) (v := .bool b) rfl)) rfl rfl rfl ?_
       refine LW.p (PEv.pick_and (.tmp rfl) (fun hp => (by first | exact .const _ | exact .tmp rfl | exact .cond rfl (by first | assumption | simp_all)))) rfl rfl rfl ?_
       refine LW.nil (KW.then ?_)
       refine CW.cond (.tmp rfl) (fun h77 => ?_) (fun h77 => ?_)
       ·first | replace h77 := of_decide_eq_true h77 | replace h77 := of_decide_eq_false h77 | skip
        have hkp : kp ks k = true := by rw [kp_at hb]; simpa using h77
        refine CW.region (LW.p (PEv.move (.tmp rfl)) rfl rfl rfl (LW.p (PEv.assign (.tmp rfl)) rfl rfl rfl (LW.nil (KW.inBlock (KW.then (CW.region (LW.p (PEv.move (.tmp rfl)) rfl rfl rfl ?_)))))))
        refine LW.p (PEv.inc (.tmp rfl) (by omega)) rfl rfl rfl ?_
        refine LW.p (PEv.assign (.tmp rfl)) rfl rfl rfl (LW.nil (KW.round ?_))
        first | exact ⟨k + 1, ⟨⟨by omega, by omega⟩, hS⟩, ⟨rfl, (by rw [lastOf_yes hkp]; rfl), rfl, rfl, rfl, rfl, rfl, rfl, rfl, rfl, trivial⟩, by first | omega | (dsimp only; omega)⟩ | exact ⟨k + 1, ⟨⟨by omega, by omega⟩, hS⟩, ⟨rfl, (by rw [lastOf_no hkp]; rfl), rfl, rfl, rfl, rfl, rfl, rfl, rfl, rfl, trivial⟩, by first | omega | (dsimp only; omega)⟩
       ·first | replace h77 := of_decide_eq_true h77 | replace h77 := of_decide_eq_false h77 | skip
        have hkp : kp ks k = false := by rw [kp_at hb]; simpa using h77
        refine CW.skip (KW.inBlock (KW.then (CW.region (LW.p (PEv.move (.tmp rfl)) rfl rfl rfl ?_))))
        refine LW.p (PEv.inc (.tmp rfl) (by omega)) rfl rfl rfl ?_
        refine LW.p (PEv.assign (.tmp rfl)) rfl rfl rfl (LW.nil (KW.round ?_))
        first | exact ⟨k + 1, ⟨⟨by omega, by omega⟩, hS⟩, ⟨rfl, (by rw [lastOf_yes hkp]; rfl), rfl, rfl, rfl, rfl, rfl, rfl, rfl, rfl, trivial⟩, by first | omega | (dsimp only; omega)⟩ | exact ⟨k + 1, ⟨⟨by omega, by omega⟩, hS⟩, ⟨rfl, (by rw [lastOf_no hkp]; rfl), rfl, rfl, rfl, rfl, rfl, rfl, rfl, rfl, trivial⟩, by first | omega | (dsimp only; omega)⟩
      | false =>
       have hkl2 := of_decide_eq_false hq17
       have hkp : kp ks k = false := kp_out (by omega)
       refine CW.region (LW.p (PEv.move (.tmp rfl)) rfl rfl rfl (LW.p (PEv.move (.tmp rfl)) rfl rfl rfl ?_))
       refine LW.p (PEv.lenS Try.underlying58 (.tmp rfl)) rfl rfl rfl ?_
       refine LW.p (PEv.fa (PEv.lss (.tmp rfl) (.tmp rfl)) (decide_eq_false (by omega))) rfl rfl rfl ?_
       refine LW.p (PEv.move (.tmp rfl)) rfl rfl rfl ?_
       refine LW.no rfl rfl rfl rfl rfl rfl rfl rfl ?_
       refine LW.no rfl rfl rfl rfl rfl rfl rfl rfl ?_
       refine LW.no rfl rfl rfl rfl rfl rfl rfl rfl ?_
       refine LW.no rfl rfl rfl rfl rfl rfl rfl rfl ?_
       refine LW.p (PEv.pick_and (b := false) (.tmp rfl) (fun hp => absurd (show false = true from hp) (by decide))) rfl rfl rfl ?_
       refine LW.nil (KW.then ?_)
       refine CW.cond_false (.tmp rfl) ?_
       refine CW.skip (KW.inBlock (KW.then (CW.region (LW.p (PEv.move (.tmp rfl)) rfl rfl rfl ?_))))
       refine LW.p (PEv.inc (.tmp rfl) (by omega)) rfl rfl rfl ?_
       refine LW.p (PEv.assign (.tmp rfl)) rfl rfl rfl (LW.nil (KW.round ?_))
       first | exact ⟨k + 1, ⟨⟨by omega, by omega⟩, hS⟩, ⟨rfl, (by rw [lastOf_yes hkp]; rfl), rfl, rfl, rfl, rfl, rfl, rfl, rfl, rfl, trivial⟩, by first | omega | (dsimp only; omega)⟩ | exact ⟨k + 1, ⟨⟨by omega, by omega⟩, hS⟩, ⟨rfl, (by rw [lastOf_no hkp]; rfl), rfl, rfl, rfl, rfl, rfl, rfl, rfl, rfl, trivial⟩, by first | omega | (dsimp only; omega)⟩
     ·first | replace h65 := of_decide_eq_true h65 | replace h65 := of_decide_eq_false h65 | skip
      refine CW.exit (KW.then_exit (KW.then_exit (KW.block_hit (KW.then (CW.seq ?_)))))
      have hkm : k = m := by simp at h65; omega
      rw [hkm]
      refine CW.region (LW.p (PEv.assign (.const _)) rfl rfl rfl (LW.nil (KW.then (CW.seq (CW.seq ?_)))))
      replace hS := hS.add (Up.refl _) (A' := aOwn 3 1 eInt (.slice none 0 0) ([] : List Int)) (OwnS.nil _ _ _ _ _) (fun i h => by cases h)
      change Wx.Sep _ _ _ [_, _, _] at hS
      refine CW.region (LW.p (PEv.assign (.const _)) rfl rfl rfl (LW.nil (KW.then (CW.block ?_))))
      refine CW.loopB (σ := Nat × Go.Value × DS × Go.Value) (fun s w => (s.1 ≤ l.length ∧ s.1 ≤ 20) ∧ (CB s.2.2.1 l n c s.1) ∧ (Sep no w0 w [aDisk { D with pv := s.2.1 } s.2.2.1, aBlk B8 (byc (applyAll c (wsK l ks n (lastOf ks m) torn s.1))) 5, aOwn 3 1 eInt s.2.2.2 (numsK ks s.1)])) (fun s => [(17, .eq (vi (s.1 : Int))), (16, .eq (s.2.2.2))]) ([(0, .eq _), (1, .eq _), (2, .eq _), (3, .eq _), (9, .eq _), (10, .eq _), (12, .eq _), (14, .eq _)]) (fun s => l.length - s.1) (0, pv0, ⟨false, 0, c, c, []⟩, .slice none 0 0) ?_ ⟨rfl, rfl, rfl, rfl, rfl, rfl, rfl, rfl, rfl, rfl, trivial⟩ ?_
      ·exact ⟨⟨Nat.zero_le _, by omega⟩, cb0 l hc.2, hS⟩
      ·rintro ⟨k, pv, z, v⟩ w10 ⟨hk3, hz, hS⟩
       dsimp only at hk3 hz hS
       refine CW.seq (CW.seq (CW.region (LW.p (PEv.move (.tmp rfl)) rfl rfl rfl (LW.p (PEv.move (.tmp rfl)) rfl rfl rfl ?_))))
       refine LW.p (PEv.lenS Try.underlying51 (.tmp rfl)) rfl rfl rfl ?_
       refine LW.p (PEv.lss (.tmp rfl) (.tmp rfl)) rfl rfl rfl ?_
       refine LW.p (PEv.move (.tmp rfl)) rfl rfl rfl ?_
       refine LW.g rfl rfl rfl rfl rfl rfl rfl (fun hc => PEv.move (.tmp rfl)) ?_
       refine LW.g rfl rfl rfl rfl rfl rfl rfl (fun hc => PEv.lss (by first | exact .tmp rfl | exact .cond rfl (by first | assumption | simp_all)) (.const _)) ?_
       refine LW.p (PEv.pick_and (.tmp rfl) (fun hp => (by first | exact .const _ | exact .tmp rfl | exact .cond rfl (by first | assumption | simp_all)))) rfl rfl rfl ?_
       refine LW.nil (KW.then ?_)
       refine CW.cond (.tmp rfl) (fun h86 => ?_) (fun h86 => ?_)
       ·first | replace h86 := of_decide_eq_true h86 | replace h86 := of_decide_eq_false h86 | skip
        refine CW.skip (KW.then (CW.seq (CW.block (CW.seq ?_))))
        have hE := hE0.up hS.upd
        have hkl : k < l.length ∧ k < 20 := by simp at h86; omega
        refine CW.region (LW.p (PEv.move (.tmp rfl)) rfl rfl rfl (LW.p (PEv.move (.tmp rfl)) rfl rfl rfl ?_))
        obtain ⟨x, hx⟩ := getElem?_of_lt (xs := l) (i := k) (by omega)
        obtain ⟨Bx, ox, ax, hcx⟩ := hE _ x hx
        refine LW.p (PEv.indexAddr' Try.underlying51 Try.sizeOf53 (.tmp rfl) (.tmp rfl) (by omega) ax) rfl rfl rfl ?_
        refine LW.p (PEv.loadA Try.isAgg53 Try.sizeOf53 rfl (.tmp rfl) (hcx)) rfl rfl rfl ?_
        refine LW.p (PEv.move (.tmp rfl)) rfl rfl rfl ?_
        refine LW.c (enter_call0 (.cons (.tmp rfl) (.cons (.tmp rfl) .nil)) (Try.en26)) rfl rfl rfl rfl (fits_any x n _ (hl x (List.mem_of_getElem? hx)) (by omega)) ?_
        rintro _ w11 ⟨rfl, uw11⟩
        have zw11 := uw11.size
        replace hS := hS.up uw11
        replace hcx := hcx.up uw11
        refine LW.r (REv.allocA Try.zeroValue53) rfl rfl rfl rfl ?_
        rintro _ w12 ⟨B18, rfl, MB18⟩
        refine LW.s (SEv.storeA Try.sizeOf53 rfl (.tmp rfl) (.tmp rfl) (WP.one _) MB18.blk rfl) rfl rfl rfl ?_
        intro w13 LB18
        have NB18 := MB18.set LB18
        clear LB18 MB18
        have eB18 := NB18.at_
        have zB18 := NB18.size
        replace hcx := hcx.up NB18.up
        replace hS := hS.addB NB18
        change Wx.Sep _ _ _ [_, _, _, _] at hS
        refine LW.nil (KW.then (CW.seq (CW.seq (CW.region (LW.p (PEv.move (.tmp rfl)) rfl rfl rfl ?_)))))
        refine LW.p (PEv.fieldAddr (off := 0) Try.underlying53 rfl rfl Try.sizeOf3 rfl (.tmp rfl)) rfl rfl rfl ?_
        refine LW.p (PEv.load Try.isAgg3 (.tmp rfl) ((hS.blk 3 rfl).celln (v := vi (fitO x n : Int)) rfl)) rfl rfl rfl ?_
        refine LW.p (PEv.fieldAddr (off := 1) Try.underlying53 rfl rfl Try.sizeOf9 rfl (.tmp rfl)) rfl rfl rfl ?_
        refine LW.p (PEv.load Try.isAgg9 (.tmp rfl) ((hS.blk 3 rfl).celln (v := .string (fitS x n)) rfl)) rfl rfl rfl ?_
        refine LW.c (enter_call0 (.cons (.tmp rfl) (.cons (.tmp rfl) (.cons (.tmp rfl) .nil))) (Try.en21)) rfl rfl rfl rfl (Write_b _ _ z _ (hS.get 0 rfl) rfl (fitO x n : Int) (fitS x n) (by have := hz.plen; omega)) ?_
        rintro _ w14 ⟨rfl, pvW, uw14⟩
        have zw14 := uw14.fr.size
        replace hS := hS.stp 0 rfl uw14
        change Wx.Sep _ _ _ [_, _, _, _] at hS
        rw [(hz.calm.write (fit_le (hl x (List.mem_of_getElem? hx)).off)).1]
        rw [(hz.calm.write (fit_le (hl x (List.mem_of_getElem? hx)).off)).2] at hS
        replace hz := hz.put hx
        refine LW.p (PEv.fa (PEv.neq (.tmp rfl) (.const _)) (rfl)) rfl rfl rfl ?_
        refine LW.nil (KW.then ?_)
        refine CW.cond_false (.tmp rfl) ?_
        refine CW.skip (KW.then (CW.seq ?_))
        cases hq26 : decide (k < ks.length) with
        | true =>
         have hkl2 := of_decide_eq_true hq26
         obtain ⟨b, hb⟩ := getElem?_of_lt (xs := ks) (i := k) hkl2
         obtain ⟨Bb, ob, hab, hcb⟩ := (hK0.up hS.upd) _ b hb
         refine CW.region (LW.p (PEv.move (.tmp rfl)) rfl rfl rfl (LW.p (PEv.move (.tmp rfl)) rfl rfl rfl ?_))
         refine LW.p (PEv.lenS Try.underlying58 (.tmp rfl)) rfl rfl rfl ?_
         refine LW.p (PEv.tr (PEv.lss (.tmp rfl) (.tmp rfl)) (decide_eq_true (by omega))) rfl rfl rfl ?_
         refine LW.p (PEv.move (.tmp rfl)) rfl rfl rfl ?_
         refine LW.yes rfl rfl rfl rfl rfl rfl ?_
         refine LW.p (PEv.move (.tmp rfl)) rfl rfl rfl ?_
         refine LW.yes rfl rfl rfl rfl rfl rfl ?_
         refine LW.p (PEv.move (.tmp rfl)) rfl rfl rfl ?_
         refine LW.yes rfl rfl rfl rfl rfl rfl ?_
         refine LW.p (PEv.indexAddr' Try.underlying58 Try.sizeOf4 (.tmp rfl) (.tmp rfl) (by omega) hab) rfl rfl rfl ?_
         refine LW.yes rfl rfl rfl rfl rfl rfl ?_
         refine LW.p (PEv.load Try.isAgg4 (.tmp rfl) (hcb.nth (j := 0) (v := .bool b) rfl)) rfl rfl rfl ?_
         refine LW.p (PEv.pick_and (.tmp rfl) (fun hp => (by first | exact .const _ | exact .tmp rfl | exact .cond rfl (by first | assumption | simp_all)))) rfl rfl rfl ?_
         refine LW.nil (KW.then ?_)
         refine CW.cond (.tmp rfl) (fun h111 => ?_) (fun h111 => ?_)
         ·first | replace h111 := of_decide_eq_true h111 | replace h111 := of_decide_eq_false h111 | skip
          have hkp : kp ks k = true := by rw [kp_at hb]; simpa using h111
          refine CW.seq ?_
          have hnl := numsK_le ks k
          obtain ⟨adn, cpn, en, hEn⟩ := (hS.own 2 rfl).sl (fun _ => rfl)
          have hSn : Sl _ v 1 eInt (numsK ks k) := ⟨adn, cpn, en, hEn⟩
          refine CW.region (LW.p (PEv.move (.tmp rfl)) rfl rfl rfl ?_)
          refine LW.r (REv.buildSlice (xs := [(k : Int)]) (enc := eInt) (mk := vi) Try.underlying37 Try.sizeOf3 Try.zeroValue3 rfl (by decide) (fun _ => rfl) (fun _ => rfl) (.cons (.tmp rfl) .nil) rfl) rfl rfl rfl rfl ?_
          rintro _ w15 ⟨B113, c113, rfl, N113, y113, x113⟩
          have e113 := N113.at_
          have z113 := N113.size
          replace hS := hS.add N113.up (A' := aOwn 3 1 eInt (.slice (some ⟨B113, 0, none⟩) 1 1) [(k : Int)]) (newOwn N113 y113 (newAt x113 N113.blk)) (fun i h => by cases h; exact Nat.le_of_eq e113.symm)
          replace hSn := hSn.up N113.up
          change Wx.Sep _ _ _ [_, _, _, _, _] at hS
          refine LW.p (PEv.move (.tmp rfl)) rfl rfl rfl ?_
          refine LW.r (REv.appendF (enc := eInt) (bytes := 8) (i := Try.t3) Try.underlying37 (by kernel_rfl) rfl rfl rfl rfl (by decide) (fun _ => rfl) eInt_one (.tmp rfl) (.tmp rfl) (hS.own 4 rfl) hSn (by simp [maxLen]; omega) (by simp; omega)) rfl rfl rfl rfl ?_
          intro v115 w16 Gw16
          have zw16 := Gw16.fr.size
          replace hS := hS.stp 4 rfl Gw16
          change Wx.Sep _ _ _ [_, _, _, _, _] at hS
          refine LW.p (PEv.assign (.tmp rfl)) rfl rfl rfl (LW.nil (KW.then (CW.seq ?_)))
          have hcl : (applyAll c (wsK l ks n (lastOf ks m) torn k)).length = n := wsK_length hc.2 hl (by omega)
          refine CW.region ?_
          refine LW.p (PEv.fieldAddr (off := 1) Try.underlying53 rfl rfl Try.sizeOf9 rfl (.tmp rfl)) rfl rfl rfl ?_
          refine LW.p (PEv.load Try.isAgg9 (.tmp rfl) ((hS.blk 3 rfl).celln (v := .string (fitS x n)) rfl)) rfl rfl rfl ?_
          refine LW.p (PEv.assign (.tmp rfl)) rfl rfl rfl (LW.nil (KW.then (CW.seq (CW.seq (CW.region (LW.p (PEv.move (.tmp rfl)) rfl rfl rfl (LW.p (PEv.move (.tmp rfl)) rfl rfl rfl ?_)))))))
          refine LW.p (PEv.eql (.tmp rfl) (.tmp rfl)) rfl rfl rfl ?_
          refine LW.p (PEv.move (.tmp rfl)) rfl rfl rfl ?_
          refine LW.g rfl rfl rfl rfl rfl rfl rfl (fun hc => PEv.move (.tmp rfl)) ?_
          refine LW.g rfl rfl rfl rfl rfl rfl rfl (fun hc => PEv.geq (by first | exact .tmp rfl | exact .cond rfl (by first | assumption | simp_all)) (.const _)) ?_
          refine LW.p (PEv.pick_and (.tmp rfl) (fun hp => (by first | exact .const _ | exact .tmp rfl | exact .cond rfl (by first | assumption | simp_all)))) rfl rfl rfl ?_
          refine LW.nil (KW.then ?_)
          refine CW.cond (.tmp rfl) (fun h124 => ?_) (fun h124 => ?_)
          ·first | replace h124 := of_decide_eq_true h124 | replace h124 := of_decide_eq_false h124 | skip
           have h124b : (k : Int) = lastOf ks m ∧ 0 ≤ torn := by simpa using h124
           have ht0 := h124b.2
           have hwk := wsK_yes (last := lastOf ks m) (torn := torn) (n := n) hkp hx c
           rw [show tearL (lastOf ks m) torn k ⟨(fitO x n : Int), fitS x n⟩ = ⟨(fitO x n : Int), cutB (fitS x n) torn⟩ from if_pos h124b] at hwk
           have hpj : fitO x n + (cutB (fitS x n) torn).size ≤ n := by have h1 := extract_size (fitS x n) (if torn < ((fitS x n).size : Int) then torn else ((fitS x n).size : Int)).toNat; have h2 := fit_le (n := n) (hl x (List.mem_of_getElem? hx)).off; unfold cutB; omega
           refine CW.region (LW.p (PEv.move (.tmp rfl)) rfl rfl rfl (LW.p (PEv.move (.tmp rfl)) rfl rfl rfl ?_))
           refine LW.c (enter_call0 (.cons (.tmp rfl) (.cons (.tmp rfl) .nil)) (Try.en22)) rfl rfl rfl rfl (cut_any _ _ _ ht0) ?_
           rintro _ w17 ⟨rfl, uw17⟩
           have zw17 := uw17.size
           replace hS := hS.up uw17
           refine LW.p (PEv.assign (.tmp rfl)) rfl rfl rfl (LW.nil (KW.then (CW.region (LW.p (PEv.move (.tmp rfl)) rfl rfl rfl ?_))))
           refine LW.p (PEv.fieldAddr (off := 0) Try.underlying53 rfl rfl Try.sizeOf3 rfl (.tmp rfl)) rfl rfl rfl ?_
           refine LW.p (PEv.load Try.isAgg3 (.tmp rfl) ((hS.blk 3 rfl).celln (v := vi (fitO x n : Int)) rfl)) rfl rfl rfl ?_
           refine LW.p (PEv.move (.tmp rfl)) rfl rfl rfl ?_
           refine LW.c (enter_call0 (.cons (.tmp rfl) (.cons (.tmp rfl) (.cons (.tmp rfl) .nil))) (Try.en27)) rfl rfl rfl rfl (put_any B8 n n (fitO x n) _ (applyAll c (wsK l ks n (lastOf ks m) torn k)) _ (hS.blk 1 rfl) hcl hpj (by omega)) ?_
           rintro _ w18 ⟨rfl, uw18⟩
           have zw18 := uw18.fr.size
           replace hS := hS.stp 1 rfl uw18
           change Wx.Sep _ _ _ [_, _, _, _, _] at hS
           rw [← hwk] at hS
           refine LW.nil (KW.inBlock (KW.then (CW.region (LW.p (PEv.move (.tmp rfl)) rfl rfl rfl ?_))))
           refine LW.p (PEv.inc (.tmp rfl) (by omega)) rfl rfl rfl ?_
           refine LW.p (PEv.assign (.tmp rfl)) rfl rfl rfl (LW.nil (KW.round ?_))
           first | exact ⟨(k + 1, pvW, putS z (fitO x n : Int) (fitS x n), v115), ⟨⟨by omega, by omega⟩, hz, (by first | (rw [numsK_yes hkp]; exact hS.sub (.cons_cons _ (.cons_cons _ (.cons _ (.cons _ (.cons_cons _ .slnil)))))) | (rw [numsK_no hkp, wsK_no hkp]; exact hS.take 3))⟩, ⟨rfl, rfl, rfl, rfl, rfl, rfl, rfl, rfl, rfl, rfl, trivial⟩, by first | omega | (dsimp only; omega)⟩ | exact ⟨(k + 1, pvW, putS z (fitO x n : Int) (fitS x n), v), ⟨⟨by omega, by omega⟩, hz, (by first | (rw [numsK_yes hkp]; exact hS.sub (.cons_cons _ (.cons_cons _ (.cons _ (.cons _ (.cons_cons _ .slnil)))))) | (rw [numsK_no hkp, wsK_no hkp]; exact hS.take 3))⟩, ⟨rfl, rfl, rfl, rfl, rfl, rfl, rfl, rfl, rfl, rfl, trivial⟩, by first | omega | (dsimp only; omega)⟩
          ·first | replace h124 := of_decide_eq_true h124 | replace h124 := of_decide_eq_false h124 | skip
           have hwk := wsK_yes (last := lastOf ks m) (torn := torn) (n := n) hkp hx c
           rw [show tearL (lastOf ks m) torn k ⟨(fitO x n : Int), fitS x n⟩ = ⟨(fitO x n : Int), fitS x n⟩ from if_neg (fun h => by simp at h124; omega)] at hwk
           have hpj := fit_le (n := n) (hl x (List.mem_of_getElem? hx)).off
           refine CW.skip (KW.then (CW.region (LW.p (PEv.move (.tmp rfl)) rfl rfl rfl ?_)))
           refine LW.p (PEv.fieldAddr (off := 0) Try.underlying53 rfl rfl Try.sizeOf3 rfl (.tmp rfl)) rfl rfl rfl ?_
           refine LW.p (PEv.load Try.isAgg3 (.tmp rfl) ((hS.blk 3 rfl).celln (v := vi (fitO x n : Int)) rfl)) rfl rfl rfl ?_
           refine LW.p (PEv.move (.tmp rfl)) rfl rfl rfl ?_
           refine LW.c (enter_call0 (.cons (.tmp rfl) (.cons (.tmp rfl) (.cons (.tmp rfl) .nil))) (Try.en27)) rfl rfl rfl rfl (put_any B8 n n (fitO x n) _ (applyAll c (wsK l ks n (lastOf ks m) torn k)) _ (hS.blk 1 rfl) hcl hpj (by omega)) ?_
           rintro _ w19 ⟨rfl, uw19⟩
           have zw19 := uw19.fr.size
           replace hS := hS.stp 1 rfl uw19
           change Wx.Sep _ _ _ [_, _, _, _, _] at hS
           rw [← hwk] at hS
           refine LW.nil (KW.inBlock (KW.then (CW.region (LW.p (PEv.move (.tmp rfl)) rfl rfl rfl ?_))))
           refine LW.p (PEv.inc (.tmp rfl) (by omega)) rfl rfl rfl ?_
           refine LW.p (PEv.assign (.tmp rfl)) rfl rfl rfl (LW.nil (KW.round ?_))
           first | exact ⟨(k + 1, pvW, putS z (fitO x n : Int) (fitS x n), v115), ⟨⟨by omega, by omega⟩, hz, (by first | (rw [numsK_yes hkp]; exact hS.sub (.cons_cons _ (.cons_cons _ (.cons _ (.cons _ (.cons_cons _ .slnil)))))) | (rw [numsK_no hkp, wsK_no hkp]; exact hS.take 3))⟩, ⟨rfl, rfl, rfl, rfl, rfl, rfl, rfl, rfl, rfl, rfl, trivial⟩, by first | omega | (dsimp only; omega)⟩ | exact ⟨(k + 1, pvW, putS z (fitO x n : Int) (fitS x n), v), ⟨⟨by omega, by omega⟩, hz, (by first | (rw [numsK_yes hkp]; exact hS.sub (.cons_cons _ (.cons_cons _ (.cons _ (.cons _ (.cons_cons _ .slnil)))))) | (rw [numsK_no hkp, wsK_no hkp]; exact hS.take 3))⟩, ⟨rfl, rfl, rfl, rfl, rfl, rfl, rfl, rfl, rfl, rfl, trivial⟩, by first | omega | (dsimp only; omega)⟩
         ·first | replace h111 := of_decide_eq_true h111 | replace h111 := of_decide_eq_false h111 | skip
          have hkp : kp ks k = false := by rw [kp_at hb]; simpa using h111
          refine CW.skip (KW.inBlock (KW.then (CW.region (LW.p (PEv.move (.tmp rfl)) rfl rfl rfl ?_))))
          refine LW.p (PEv.inc (.tmp rfl) (by omega)) rfl rfl rfl ?_
          refine LW.p (PEv.assign (.tmp rfl)) rfl rfl rfl (LW.nil (KW.round ?_))
          first | exact ⟨(k + 1, pvW, putS z (fitO x n : Int) (fitS x n), v115), ⟨⟨by omega, by omega⟩, hz, (by first | (rw [numsK_yes hkp]; exact hS.sub (.cons_cons _ (.cons_cons _ (.cons _ (.cons _ (.cons_cons _ .slnil)))))) | (rw [numsK_no hkp, wsK_no hkp]; exact hS.take 3))⟩, ⟨rfl, rfl, rfl, rfl, rfl, rfl, rfl, rfl, rfl, rfl, trivial⟩, by first | omega | (dsimp only; omega)⟩ | exact ⟨(k + 1, pvW, putS z (fitO x n : Int) (fitS x n), v), ⟨⟨by omega, by omega⟩, hz, (by first | (rw [numsK_yes hkp]; exact hS.sub (.cons_cons _ (.cons_cons _ (.cons _ (.cons _ (.cons_cons _ .slnil)))))) | (rw [numsK_no hkp, wsK_no hkp]; exact hS.take 3))⟩, ⟨rfl, rfl, rfl, rfl, rfl, rfl, rfl, rfl, rfl, rfl, trivial⟩, by first | omega | (dsimp only; omega)⟩
        | false =>
         have hkl2 := of_decide_eq_false hq26
         have hkp : kp ks k = false := kp_out (by omega)
         refine CW.region (LW.p (PEv.move (.tmp rfl)) rfl rfl rfl (LW.p (PEv.move (.tmp rfl)) rfl rfl rfl ?_))
         refine LW.p (PEv.lenS Try.underlying58 (.tmp rfl)) rfl rfl rfl ?_
         refine LW.p (PEv.fa (PEv.lss (.tmp rfl) (.tmp rfl)) (decide_eq_false (by omega))) rfl rfl rfl ?_
         refine LW.p (PEv.move (.tmp rfl)) rfl rfl rfl ?_
         refine LW.no rfl rfl rfl rfl rfl rfl rfl rfl ?_
         refine LW.no rfl rfl rfl rfl rfl rfl rfl rfl ?_
         refine LW.no rfl rfl rfl rfl rfl rfl rfl rfl ?_
         refine LW.no rfl rfl rfl rfl rfl rfl rfl rfl ?_
         refine LW.p (PEv.pick_and (b := false) (.tmp rfl) (fun hp => absurd (show false = true from hp) (by decide))) rfl rfl rfl ?_
         refine LW.nil (KW.then ?_)
         refine CW.cond_false (.tmp rfl) ?_
         refine CW.skip (KW.inBlock (KW.then (CW.region (LW.p (PEv.move (.tmp rfl)) rfl rfl rfl ?_))))
         refine LW.p (PEv.inc (.tmp rfl) (by omega)) rfl rfl rfl ?_
         refine LW.p (PEv.assign (.tmp rfl)) rfl rfl rfl (LW.nil (KW.round ?_))
         first | exact ⟨(k + 1, pvW, putS z (fitO x n : Int) (fitS x n), v115), ⟨⟨by omega, by omega⟩, hz, (by first | (rw [numsK_yes hkp]; exact hS.sub (.cons_cons _ (.cons_cons _ (.cons _ (.cons _ (.cons_cons _ .slnil)))))) | (rw [numsK_no hkp, wsK_no hkp]; exact hS.take 3))⟩, ⟨rfl, rfl, rfl, rfl, rfl, rfl, rfl, rfl, rfl, rfl, trivial⟩, by first | omega | (dsimp only; omega)⟩ | exact ⟨(k + 1, pvW, putS z (fitO x n : Int) (fitS x n), v), ⟨⟨by omega, by omega⟩, hz, (by first | (rw [numsK_yes hkp]; exact hS.sub (.cons_cons _ (.cons_cons _ (.cons _ (.cons _ (.cons_cons _ .slnil)))))) | (rw [numsK_no hkp, wsK_no hkp]; exact hS.take 3))⟩, ⟨rfl, rfl, rfl, rfl, rfl, rfl, rfl, rfl, rfl, rfl, trivial⟩, by first | omega | (dsimp only; omega)⟩
       ·first | replace h86 := of_decide_eq_true h86 | replace h86 := of_decide_eq_false h86 | skip
        refine CW.exit (KW.then_exit (KW.then_exit (KW.block_hit (KW.then (CW.seq ?_)))))
        have hkm : k = m := by simp at h86; omega
        rw [hkm] at hz hS
        have hcl : (applyAll c (wsK l ks n (lastOf ks m) torn m)).length = n := wsK_length hc.2 hl (by omega)
        obtain ⟨adn, cpn, rfl, hEk⟩ := (hS.own 2 rfl).sl (fun _ => rfl)
        refine CW.region (LW.p (PEv.move (.tmp rfl)) rfl rfl rfl (LW.p (PEv.move (.tmp rfl)) rfl rfl rfl (LW.p (PEv.move (.tmp rfl)) rfl rfl rfl ?_)))
        refine LW.c (enter_call0 (.cons (.tmp rfl) (.cons (.tmp rfl) (.cons (.tmp rfl) .nil))) (Try.en25)) rfl rfl rfl rfl (Crash_b _ _ z _ (hS.get 0 rfl) rfl hEk torn (by have := numsK_le ks m; omega)) ?_
        rintro _ w20 ⟨rfl, pv_w20, uw20⟩
        have zw20 := uw20.fr.size
        replace hS := hS.stp 0 rfl uw20
        change Wx.Sep _ _ _ [_, _, _] at hS
        rw [crash_kept hz] at hS
        refine LW.p (PEv.assign (.tmp rfl)) rfl rfl rfl (LW.nil (KW.then (CW.seq ?_)))
        have hvf := hcl
        refine CW.region (LW.p (PEv.move (.tmp rfl)) rfl rfl rfl (LW.p (PEv.move (.tmp rfl)) rfl rfl rfl ?_))
        refine LW.c (enter_call0 (.cons (.tmp rfl) (.cons (.const _) (.cons (.tmp rfl) .nil))) (Try.en14)) rfl rfl rfl rfl (Read_b _ _ _ _ (hS.get 0 rfl) rfl 0 (n : Int)) ?_
        rintro _ w21 ⟨rfl, uw21⟩
        have zw21 := uw21.size
        replace hS := hS.up uw21
        rw [((calm_plain hvf).reads hvf).1, ((calm_plain hvf).reads hvf).2]
        refine LW.p (PEv.move (.tmp rfl)) rfl rfl rfl (LW.p (PEv.extract (.tmp rfl) rfl) rfl rfl rfl (LW.p (PEv.extract (.tmp rfl) rfl) rfl rfl rfl (LW.p (PEv.assign (.tmp rfl)) rfl rfl rfl (LW.p (PEv.assign (.tmp rfl)) rfl rfl rfl (LW.nil (KW.then (CW.seq (CW.region (LW.p (PEv.move (.tmp rfl)) rfl rfl rfl (LW.p (PEv.move (.tmp rfl)) rfl rfl rfl ?_))))))))))
        refine LW.yes rfl rfl rfl rfl rfl rfl ?_
        refine LW.p (PEv.move (.tmp rfl)) rfl rfl rfl ?_
        refine LW.yes rfl rfl rfl rfl rfl rfl ?_
        refine LW.p (PEv.tr (PEv.eql (.tmp rfl) (.const _)) (rfl)) rfl rfl rfl ?_
        refine LW.p (PEv.pick_and (.tmp rfl) (fun hp => (by first | exact .const _ | exact .tmp rfl | exact .cond rfl (by first | assumption | simp_all)))) rfl rfl rfl ?_
        refine LW.p (PEv.move (.tmp rfl)) rfl rfl rfl ?_
        refine LW.yes rfl rfl rfl rfl rfl rfl ?_
        refine LW.p (PEv.move (.tmp rfl)) rfl rfl rfl ?_
        refine LW.yes rfl rfl rfl rfl rfl rfl ?_
        refine LW.p (PEv.tr (PEv.eql (.tmp rfl) (.const _)) (rfl)) rfl rfl rfl ?_
        refine LW.p (PEv.pick_and (.tmp rfl) (fun hp => (by first | exact .const _ | exact .tmp rfl | exact .cond rfl (by first | assumption | simp_all)))) rfl rfl rfl ?_
        refine LW.p (PEv.move (.tmp rfl)) rfl rfl rfl ?_
        refine LW.yes rfl rfl rfl rfl rfl rfl ?_
        refine LW.p (PEv.move (.tmp rfl)) rfl rfl rfl ?_
        refine LW.yes rfl rfl rfl rfl rfl rfl ?_
        refine LW.p (PEv.move (.tmp rfl)) rfl rfl rfl ?_
        refine LW.yes rfl rfl rfl rfl rfl rfl ?_
        refine LW.p (PEv.bytesStr0 Try.underlying40 Try.underlying5 Try.underlying9 (.tmp rfl) (hS.blk 1 rfl) hvf) rfl rfl rfl ?_
        refine LW.yes rfl rfl rfl rfl rfl rfl ?_
        refine LW.p (PEv.tr (PEv.eqlStr (.tmp rfl) (.tmp rfl)) (beq_self_eq_true _)) rfl rfl rfl ?_
        refine LW.p (PEv.pick_and (.tmp rfl) (fun hp => (by first | exact .const _ | exact .tmp rfl | exact .cond rfl (by first | assumption | simp_all)))) rfl rfl rfl ?_
        refine LW.p (PEv.assign (.tmp rfl)) rfl rfl rfl (LW.nil (KW.then (CW.ret ?_)))
        refine KW.ret1 rfl rfl ⟨_, rfl, ?_⟩
        exact ⟨rfl, hS.upd⟩

end Go.Proofs.Ytkpkljbmbmjadaa
