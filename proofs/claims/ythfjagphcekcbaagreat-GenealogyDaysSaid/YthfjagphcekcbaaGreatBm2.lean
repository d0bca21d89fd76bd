import Derived.Test.YthfjagphcekcbaaGreatBm1
import Derived.Test.YthfjagphcekcbaaGreatRz
import Derived.Test.YthfjagphcekcbaaGreatFe
-- Ba5
namespace Go.Wx

def encG (p : UInt8 × Bool) : Array Go.Value := #[bv p.1, .bool p.2]
theorem grp_ne (z : Nat) : grp z ≠ [] := by unfold grp grpF; split <;> simp
theorem PEv.val {P : Program} {n : Nat} {ds : List Deferred} {l : Env} {w : World} {o : Oper} {v v' : Go.Value} (h : PEv P n ds l w o v) (e : v = v') : PEv P n ds l w o v' := e ▸ h
theorem grp_last {pre : List (UInt8 × Bool)} {z zz : Nat} {b : Bool} (hb : b = true ↔ zz < 128) (h : grp z = pre ++ grp zz) (hz : b = true) : pre ++ [(UInt8.ofNat (zz % 128), b)] = grp z := by
  have hz1 := hb.1 hz
  rw [h, grp_small hz1, Nat.mod_eq_of_lt hz1, hz]
theorem grp_next {pre : List (UInt8 × Bool)} {z zz : Nat} {b : Bool} (hb : b = true ↔ zz < 128) (h : grp z = pre ++ grp zz) (hz : b = false) (h64 : zz < 18446744073709551616) : grp z = (pre ++ [(UInt8.ofNat (zz % 128), b)]) ++ grp (zz / 128) ∧ zz / 128 < zz := by
  have hz1 : ¬ zz < 128 := fun e => by rw [hb.2 e] at hz; cases hz
  rw [h, grp_big hz1 h64, hz]
  exact ⟨by simp, by omega⟩
theorem lb_iff {zz : Nat} {b : Bool} (hb : b = decide ((zz : Int) < 128)) : b = true ↔ zz < 128 := ⟨fun h => by have := of_decide_eq_true (hb.symm.trans h); omega, fun h => hb.trans (decide_eq_true (by omega))⟩
theorem grp_room {pre : List (UInt8 × Bool)} {z zz : Nat} (h : grp z = pre ++ grp zz) : pre.length < 10 := by
  have h1 := grp_len z
  have h2 := List.length_pos_iff.2 (grp_ne zz)
  rw [h, List.length_append] at h1
  omega
theorem grpB_no {x : UInt8 × Bool} (h : (!x.2) = true) : grpB x = x.1 ||| 128 := if_neg (by simpa using h)
theorem grpB_yes {x : UInt8 × Bool} (h : (!x.2) = false) : grpB x = x.1 := if_pos (by simpa using h)
theorem grp_lt {z : Nat} : ∀ p ∈ grp z, p.1.toNat < 128 := grpF_small 10 z
def putO (n : Int) : Int := if inW n then 0 else 10
theorem encI_in {n : Int} (h : inW n) : encI n = (grp (zig n)).map grpB := by rw [encI, if_pos h]; rfl
theorem encI_out {n : Int} (h : ¬ inW n) : encI n = [] := by rw [encI, if_neg h]
theorem bytes_str (c : List UInt8) : strOf c 0 c.length = ⟨c.toArray⟩ := by simp [strOf]

end Go.Wx
namespace Go.Proofs.YthfjagphcekcbaaGreat
open Go.Wx Go.RowKit
theorem groups_any (z : Nat) (w : World) : Ret Tryz.prog 124 #[vu z] w fun r w' => (∃ B, r = .func (.func 144) #[] #[.pointer (some ⟨B, 0, none⟩)] ∧ Blk w' B #[vu z] 149 ∧ w.heap.size ≤ B) ∧ Up w w' := by
  have hW := Up.refl w
  refine Calls_start (n := 4) (m := 9) Tryz.func124 rfl rfl rfl ?_
  refine CW.seq (CW.region ?_)
  refine LW.r (REv.box1 (.tmp rfl) rfl) rfl rfl rfl rfl ?_
  rintro _ w1 ⟨B1, rfl, NB1⟩
  have eB1 := NB1.at_
  have zB1 := NB1.size
  replace hW := hW.up NB1.up
  have hB1 := NB1.blk
  refine LW.p (PEv.assign (.const _)) rfl rfl rfl (LW.nil (KW.then (CW.seq (CW.region ?_))))
  refine LW.p (PEv.makeFunc (.cons (.tmp rfl) .nil)) rfl rfl rfl ?_
  refine LW.p (PEv.assign (.tmp rfl)) rfl rfl rfl (LW.nil (KW.then (CW.ret ?_)))
  refine KW.ret1 rfl rfl ⟨_, rfl, ?_⟩
  exact ⟨⟨_, rfl, hB1, by omega⟩, hW⟩

theorem groups_iter (B1 z : Nat) (w : World) (hz : z < 18446744073709551616) (hB : Blk w B1 #[vu z] 149) : IterZ Tryz.prog 144 #[.pointer (some ⟨B1, 0, none⟩)] encG (fun b => b = B1) (fun ys => ys = grp z) 10 w := by
  intro lp J w0 hUw hJZ hY hJ
  have hB1 := hB.up hUw
  refine Calls_start (n := 18) (m := 9) Tryz.func144 rfl rfl rfl ?_
  refine CW.block ?_
  refine CW.loop (σ := List (UInt8 × Bool) × Nat) (fun s w => grp z = s.1 ++ grp s.2 ∧ s.2 < 18446744073709551616 ∧ J s.1 w ∧ Blk w B1 #[vu s.2] 149) (fun s => [(0, .eq (.func (.yield lp) #[] #[])), (1, .eq (.pointer (some ⟨B1, 0, none⟩)))]) (fun s => s.2) ([], z) ?_ ?_ ?_
  ·exact ⟨rfl, hz, hJ, hB1⟩
  ·exact ⟨rfl, rfl, trivial⟩
  ·rintro ⟨pre, zz⟩ w1 ⟨hg, h64, hJ, hB1⟩
   dsimp only at hg h64 hJ hB1
   obtain ⟨lb, hlb⟩ : ∃ b, b = decide ((zz : Int) < 128) := ⟨_, rfl⟩
   refine CW.block (CW.seq (CW.region ?_))
   refine LW.p (PEv.load Tryz.isAgg149 (.tmp rfl) ((hB1).celln rfl)) rfl rfl rfl ?_
   refine LW.p (PEv.val (v' := .bool lb) (PEv.lss (.tmp rfl) (.const _)) (congrArg Go.Value.bool hlb.symm)) rfl rfl rfl ?_
   refine LW.p (PEv.assign (.tmp rfl)) rfl rfl rfl (LW.nil (KW.then (CW.seq (CW.seq (CW.region (LW.p (PEv.move (.tmp rfl)) rfl rfl rfl ?_))))))
   refine LW.p (PEv.load Tryz.isAgg149 (.tmp rfl) ((hB1).celln rfl)) rfl rfl rfl ?_
   refine LW.p (PEv.val (v' := vu (zz % 128)) (PEv.and_w (.tmp rfl) (.const _)) (congrArg (Go.Value.int .u64) (and127 h64))) rfl rfl rfl ?_
   refine LW.p (PEv.val (v' := bv (UInt8.ofNat (zz % 128))) (PEv.conv (k' := .u8) (by rw [Tryz.underlying149]; rfl) Tryz.underlying5 (.tmp rfl)) (byte_of (z := zz % 128))) rfl rfl rfl ?_
   refine LW.p (PEv.move (.tmp rfl)) rfl rfl rfl ?_
   have hY2 := hY pre (UInt8.ofNat (zz % 128), lb) _ hJ (grp_room hg)
   refine LW.y (vs := [bv (UInt8.ofNat (zz % 128)), .bool lb]) (.tmp rfl) (.cons (.tmp rfl) (.cons (.tmp rfl) .nil)) rfl rfl hY2 ?_
   rintro _ w2 ⟨rfl, hJ2, hkp⟩
   replace hB1 : Blk w2 B1 _ _ := (hkp B1 rfl).trans hB1
   refine LW.p (PEv.not (.tmp rfl)) rfl rfl rfl ?_
   refine LW.p (PEv.move (.tmp rfl)) rfl rfl rfl ?_
   refine LW.g rfl rfl rfl rfl rfl rfl rfl (fun hc => PEv.move (.tmp rfl)) ?_
   refine LW.p (PEv.pick_or (.tmp rfl) (fun hp => (by first | exact .const _ | exact .tmp rfl | exact .cond rfl (by first | assumption | simp_all)))) rfl rfl rfl ?_
   refine LW.nil (KW.then ?_)
   refine CW.cond (.tmp rfl) (fun h15 => ?_) (fun h15 => ?_)
   ·first | replace h15 := of_decide_eq_true h15 | replace h15 := of_decide_eq_false h15 | skip
    refine CW.ret (KW.then_ret (KW.block_ret (KW.then_ret (KW.block_ret ?_))))
    refine KW.ret0 rfl ⟨_, rfl, ?_⟩
    exact ⟨_, grp_last (lb_iff hlb) hg (by simpa using h15), hJ2⟩
   ·first | replace h15 := of_decide_eq_true h15 | replace h15 := of_decide_eq_false h15 | skip
    refine CW.skip (KW.then (CW.region ?_))
    refine LW.p (PEv.load Tryz.isAgg149 (.tmp rfl) ((hB1).celln rfl)) rfl rfl rfl ?_
    refine LW.p (PEv.val (v' := vu (zz / 128)) (PEv.shr_w (j := 7) (.tmp rfl) (.const _)) (congrArg (Go.Value.int .u64) (shr7 (z := zz)))) rfl rfl rfl ?_
    refine LW.s (SEv.store Tryz.sizeOf149 (.tmp rfl) (.tmp rfl) rfl hB1 (Nat.le_of_ble_eq_true rfl)) rfl rfl rfl ?_
    intro w3 Nw3
    have zw3 := Nw3.size
    replace hB1 := Nw3.blk
    replace hB1 : Blk w3 B1 #[vu (zz / 128)] _ := hB1
    refine LW.nil (KW.inBlock (KW.round ?_))
    have hnx := grp_next (lb_iff hlb) hg (by simpa using h15) h64
    exact ⟨(_, zz / 128), ⟨hnx.1, by dsimp only; omega, hJZ _ _ _ hJ2 Nw3.sto.fr, hB1⟩, ⟨rfl, rfl, trivial⟩, hnx.2⟩

theorem PutInt_any (n : Int) (w : World) : Ret Tryz.prog 92 #[vi n] w fun r w' => r = .tuple #[.string ⟨(encI n).toArray⟩, vi (putO n)] ∧ Up w w' := by
  have hW := Up.refl w
  obtain ⟨w0, rfl⟩ : ∃ w0, w0 = w := ⟨_, rfl⟩
  refine Calls_startM (n := 33) Tryz.func92 rfl rfl rfl ?_
  refine CW.seq (CW.region (LW.p (PEv.assign (.const _)) rfl rfl rfl (LW.p (PEv.assign (.const _)) rfl rfl rfl (LW.nil (KW.then (CW.seq (CW.seq ?_)))))))
  cases hq1 : decide (inW n) with
  | true =>
   have hin := of_decide_eq_true hq1
   obtain ⟨hin1, hin2⟩ := hin
   have hin : inW n := ⟨hin1, hin2⟩
   refine CW.region (LW.p (PEv.move (.tmp rfl)) rfl rfl rfl ?_)
   refine LW.p (PEv.fa (PEv.lss (.tmp rfl) (.const _)) (decide_eq_false (by omega))) rfl rfl rfl ?_
   refine LW.p (PEv.move (.tmp rfl)) rfl rfl rfl ?_
   refine LW.yes rfl rfl rfl rfl rfl rfl ?_
   refine LW.p (PEv.move (.tmp rfl)) rfl rfl rfl ?_
   refine LW.yes rfl rfl rfl rfl rfl rfl ?_
   refine LW.p (PEv.fa (PEv.gtr (.tmp rfl) (.const _)) (decide_eq_false (by omega))) rfl rfl rfl ?_
   refine LW.p (PEv.pick_or (.tmp rfl) (fun hp => (by first | exact .const _ | exact .tmp rfl | exact .cond rfl (by first | assumption | simp_all)))) rfl rfl rfl ?_
   refine LW.nil (KW.then ?_)
   refine CW.cond_false (.tmp rfl) ?_
   refine CW.skip (KW.then (CW.seq (CW.region ?_)))
   refine LW.r (REv.alloc1 Tryz.zeroValue89 rfl) rfl rfl rfl rfl ?_
   rintro _ w1 ⟨B4, rfl, NB4⟩
   have eB4 := NB4.at_
   have zB4 := NB4.size
   replace hW := hW.up NB4.up
   have hB4 := NB4.blk
   refine LW.nil (KW.then (CW.seq (CW.seq (CW.region (LW.p (PEv.move (.tmp rfl)) rfl rfl rfl ?_)))))
   refine LW.p (PEv.conv (k' := .u64) (by rw [Tryz.underlying3]; rfl) Tryz.underlying149 (.tmp rfl)) rfl rfl rfl ?_
   refine LW.p (PEv.shl_w (j := 1) (.tmp rfl) (.const _)) rfl rfl rfl ?_
   refine LW.p (PEv.move (.tmp rfl)) rfl rfl rfl ?_
   refine LW.p (PEv.shr_w (j := 63) (.tmp rfl) (.const _)) rfl rfl rfl ?_
   refine LW.p (PEv.conv (k' := .u64) (by rw [Tryz.underlying3]; rfl) Tryz.underlying149 (.tmp rfl)) rfl rfl rfl ?_
   refine LW.p (PEv.val (v' := vu (zig n)) (PEv.xor_w (.tmp rfl) (.tmp rfl)) (congrArg (Go.Value.int .u64) (zig_bits hin))) rfl rfl rfl ?_
   refine LW.c (enter_call0 (.cons (.tmp rfl) .nil) (Tryz.en124)) rfl rfl rfl rfl (groups_any _ _) ?_
   rintro _ w2 ⟨⟨B1, rfl, hBz, zz1⟩, uw2⟩
   have zw2 := uw2.size
   replace hW := hW.up uw2
   replace hB4 := hB4.up uw2
   refine LW.nil (KW.then (CW.block ?_))
   obtain ⟨bq, hbq⟩ : ∃ bq, bq = w2.heap.size := ⟨_, rfl⟩
   have zBz := hBz.lt
   refine CW.rangeFuncZ (fun b => b = B1) (fun pre W => Sz bq W ∧ ∃ v, Blk W B4 #[v] 89 ∧ OwnS W bq 5 1 eBy v (pre.map grpB) ∧ Up w0 W) (fun x => [(5, .eq (bv x.1)), (6, .eq (.bool x.2)), (4, .eq (.pointer (some ⟨B4, 0, none⟩)))]) (.tmp rfl) (fun args w => Tryz.en144 args w) (fun W hu => groups_iter B1 (zig n) W (zig_lt hin.1 hin.2) (hBz.up hu)) (fun _ => rfl) rfl ?_ ?_ ?_ ?_ ?_ (fun _ => rfl) ?_ ?_
   ·rintro b rfl
    omega
   ·rw [← hbq]
    intro pre W W' row hs hg hr
    obtain ⟨hZ, v, hB4, hO, hW⟩ := hs
    exact ⟨hZ.ko (Ko.grown hg hr), v, hB4.ko (Ko.grown hg hr), hO.ko (Ko.grown hg hr), hW.ko (Ko.grown hg hr) (by omega)⟩
   ·intro pre W W' hs hf
    obtain ⟨hZ, v, hB4, hO, hW⟩ := hs
    exact ⟨hZ.frz hf, v, hB4.frz hf (by omega), hO.frz hf (fun b e => by subst e; omega), hW.frz hf (fun b e => by subst e; omega)⟩
   ·exact ⟨Nat.le_of_eq hbq, _, hB4, OwnS.nil _ _ _ _ _, hW⟩
   ·intro lp x w3
    refine CW.assign2 rfl rfl ?_
    refine CW.seq (CW.region (LW.p (PEv.assign (.tmp rfl)) rfl rfl rfl (LW.nil (KW.then (CW.region (LW.p (PEv.assign (.tmp rfl)) rfl rfl rfl (LW.nil ?_)))))))
    exact fun a ha => ⟨rfl, ha.sub ⟨rfl, rfl, rfl, trivial⟩⟩
   ·rw [← hbq]
    intro lp pre x w4 hs hlt
    obtain ⟨hZ, v, hB4, hO, hW⟩ := hs
    have zq := hZ.le
    have hK := Kf.refl bq w4
    have hI1 := Zk.refl (B := B1) (w := w4) (by omega)
    refine CW.block (CW.seq (CW.seq (CW.region (LW.p (PEv.move (.tmp rfl)) rfl rfl rfl ?_))))
    refine LW.p (PEv.not (.tmp rfl)) rfl rfl rfl ?_
    refine LW.nil (KW.then ?_)
    refine CW.cond (.tmp rfl) (fun h24 => ?_) (fun h24 => ?_)
    ·first | replace h24 := of_decide_eq_true h24 | replace h24 := of_decide_eq_false h24 | skip
     refine CW.region (LW.p (PEv.move (.tmp rfl)) rfl rfl rfl ?_)
     refine LW.p (PEv.val (v' := bv (x.1 ||| 128)) (PEv.or_w (.tmp rfl) (.const _)) (congrArg (Go.Value.int .u8) or128)) rfl rfl rfl ?_
     refine LW.p (PEv.assign (.tmp rfl)) rfl rfl rfl (LW.nil (KW.then (CW.region ?_)))
     refine LW.p (PEv.load Tryz.isAgg89 (.tmp rfl) (hB4.celln rfl)) rfl rfl rfl ?_
     refine LW.p (PEv.move (.tmp rfl)) rfl rfl rfl ?_
     refine LW.r (REv.buildSlice (xs := [_]) (enc := eBy) (mk := bv) Tryz.underlying89 Tryz.sizeOf5 Tryz.zeroValue5 rfl (by decide) (fun _ => rfl) (fun _ => rfl) (.cons (.tmp rfl) .nil) rfl) rfl rfl rfl rfl ?_
     rintro _ w5 ⟨B29, cB29, rfl, NB29, yB29, xB29⟩
     have eB29 := NB29.at_
     have zB29 := NB29.size
     replace hZ := hZ.up NB29.up
     replace hB4 := hB4.up NB29.up
     replace hO := hO.up NB29.up
     replace hW := hW.up NB29.up
     replace hK := hK.up NB29.up
     replace hI1 := hI1.up NB29.up
     have hB29 := NB29.blk
     have hE29 := xB29
     refine LW.r (REv.append (enc := eBy) (base := bq) (bytes := 1) (i := Tryz.t5) Tryz.underlying89 (by kernel_rfl) rfl rfl rfl rfl (by decide) (fun _ => rfl) eBy_one (.tmp rfl) (.tmp rfl) hO (Sl.of_els hE29) (by simp) (by simp [maxLen]; omega) (by simp; omega) (by omega)) rfl rfl rfl rfl ?_
     rintro v30 w6 ⟨Ow6, Gw6⟩
     have zw6 := Gw6.size
     replace hZ := hZ.gr Gw6 rfl
     replace hB4 := hB4.gr Gw6 (by omega)
     replace hW := hW.gr Gw6 (by omega)
     replace hK := hK.gr Gw6
     replace hI1 := hI1.gr Gw6 (by omega)
     replace hO := Ow6
     refine LW.s (SEv.store Tryz.sizeOf89 (.tmp rfl) (.tmp rfl) hO.one hB4 (Nat.le_of_ble_eq_true rfl)) rfl rfl rfl ?_
     intro w7 Nw7
     have zw7 := Nw7.size
     replace hZ := hZ.sto Nw7.sto (by omega)
     replace hO := hO.sto Nw7.sto (by omega)
     replace hW := hW.sto Nw7.sto (by omega)
     replace hK := hK.sto Nw7.sto (.inr (.inr ⟨_, _, hB4⟩))
     replace hI1 := hI1.sto Nw7.sto (by omega)
     replace hB4 := Nw7.blk
     replace hB4 : Blk w7 B4 #[v30] _ := hB4
     refine LW.nil (KW.inBlock ?_)
     exact fun a ha => ⟨hK, fun b e => by subst e; exact hI1.same, hZ, _, hB4, by rw [List.map_append, List.map_cons, List.map_nil]; first | (rw [grpB_no h24]; exact hO) | (rw [grpB_yes h24]; exact hO), hW⟩
    ·first | replace h24 := of_decide_eq_true h24 | replace h24 := of_decide_eq_false h24 | skip
     refine CW.skip (KW.then (CW.region ?_))
     refine LW.p (PEv.load Tryz.isAgg89 (.tmp rfl) (hB4.celln rfl)) rfl rfl rfl ?_
     refine LW.p (PEv.move (.tmp rfl)) rfl rfl rfl ?_
     refine LW.r (REv.buildSlice (xs := [_]) (enc := eBy) (mk := bv) Tryz.underlying89 Tryz.sizeOf5 Tryz.zeroValue5 rfl (by decide) (fun _ => rfl) (fun _ => rfl) (.cons (.tmp rfl) .nil) rfl) rfl rfl rfl rfl ?_
     rintro _ w8 ⟨B29, cB29, rfl, NB29, yB29, xB29⟩
     have eB29 := NB29.at_
     have zB29 := NB29.size
     replace hZ := hZ.up NB29.up
     replace hB4 := hB4.up NB29.up
     replace hO := hO.up NB29.up
     replace hW := hW.up NB29.up
     replace hK := hK.up NB29.up
     replace hI1 := hI1.up NB29.up
     have hB29 := NB29.blk
     have hE29 := xB29
     refine LW.r (REv.append (enc := eBy) (base := bq) (bytes := 1) (i := Tryz.t5) Tryz.underlying89 (by kernel_rfl) rfl rfl rfl rfl (by decide) (fun _ => rfl) eBy_one (.tmp rfl) (.tmp rfl) hO (Sl.of_els hE29) (by simp) (by simp [maxLen]; omega) (by simp; omega) (by omega)) rfl rfl rfl rfl ?_
     rintro v30 w9 ⟨Ow9, Gw9⟩
     have zw9 := Gw9.size
     replace hZ := hZ.gr Gw9 rfl
     replace hB4 := hB4.gr Gw9 (by omega)
     replace hW := hW.gr Gw9 (by omega)
     replace hK := hK.gr Gw9
     replace hI1 := hI1.gr Gw9 (by omega)
     replace hO := Ow9
     refine LW.s (SEv.store Tryz.sizeOf89 (.tmp rfl) (.tmp rfl) hO.one hB4 (Nat.le_of_ble_eq_true rfl)) rfl rfl rfl ?_
     intro w10 Nw10
     have zw10 := Nw10.size
     replace hZ := hZ.sto Nw10.sto (by omega)
     replace hO := hO.sto Nw10.sto (by omega)
     replace hW := hW.sto Nw10.sto (by omega)
     replace hK := hK.sto Nw10.sto (.inr (.inr ⟨_, _, hB4⟩))
     replace hI1 := hI1.sto Nw10.sto (by omega)
     replace hB4 := Nw10.blk
     replace hB4 : Blk w10 B4 #[v30] _ := hB4
     refine LW.nil (KW.inBlock ?_)
     exact fun a ha => ⟨hK, fun b e => by subst e; exact hI1.same, hZ, _, hB4, by rw [List.map_append, List.map_cons, List.map_nil]; first | (rw [grpB_no h24]; exact hO) | (rw [grpB_yes h24]; exact hO), hW⟩
   ·intro D ys w11 hDb hSy hs hD
    rw [← hbq] at hDb
    obtain ⟨hZ, v, hB4, hO, hW⟩ := hs
    replace hD : Ob w11 D (.deferred (some [])) := hD
    have zD := hD.lt
    have zq := hZ.le
    refine KW.inBlock (KW.then (CW.seq (CW.region ?_)))
    refine LW.p (PEv.load Tryz.isAgg89 (.tmp rfl) (hB4.celln rfl)) rfl rfl rfl ?_
    refine LW.p (PEv.ownStr Tryz.underlying89 Tryz.underlying5 Tryz.underlying9 (.tmp rfl) hO) rfl rfl rfl ?_
    refine LW.p (PEv.assign (.tmp rfl)) rfl rfl rfl (LW.p (PEv.assign (.const _)) rfl rfl rfl (LW.nil (KW.then (CW.ret ?_))))
    refine KW.unmark hD rfl ?_
    replace hZ := hZ.ko (Ko.putObj (.deferred none) hD rfl hDb)
    replace hB4 := hB4.ko (Ko.putObj (.deferred none) hD rfl hDb)
    replace hO := hO.ko (Ko.putObj (.deferred none) hD rfl hDb)
    replace hW := hW.putObj (D := D) (.deferred none) (by omega)
    refine KW.ret2 rfl rfl rfl ⟨_, rfl, ?_⟩
    first | (rw [encI_in hin, putO, if_pos hin]; subst hSy; exact ⟨rfl, hW⟩) | (rw [encI_out hin, putO, if_neg hin]; exact ⟨rfl, hW⟩)
  | false =>
   have hin := of_decide_eq_false hq1
   refine CW.region (LW.p (PEv.move (.tmp rfl)) rfl rfl rfl ?_)
   refine LW.p (PEv.lss (.tmp rfl) (.const _)) rfl rfl rfl ?_
   refine LW.p (PEv.move (.tmp rfl)) rfl rfl rfl ?_
   refine LW.g rfl rfl rfl rfl rfl rfl rfl (fun hc => PEv.move (.tmp rfl)) ?_
   refine LW.g rfl rfl rfl rfl rfl rfl rfl (fun hc => PEv.gtr (by first | exact .tmp rfl | exact .cond rfl (by first | assumption | simp_all)) (.const _)) ?_
   refine LW.p (PEv.pick_or (.tmp rfl) (fun hp => (by first | exact .const _ | exact .tmp rfl | exact .cond rfl (by first | assumption | simp_all)))) rfl rfl rfl ?_
   refine LW.nil (KW.then ?_)
   refine CW.cond (.tmp rfl) (fun h12 => ?_) (fun h12 => ?_)
   ·first | replace h12 := of_decide_eq_true h12 | replace h12 := of_decide_eq_false h12 | skip
    refine CW.seq (CW.region (LW.p (PEv.assign (.const _)) rfl rfl rfl (LW.p (PEv.assign (.const _)) rfl rfl rfl (LW.nil (KW.then (CW.ret (KW.then_ret ?_)))))))
    refine KW.unmark0 ?_
    refine KW.ret2 rfl rfl rfl ⟨_, rfl, ?_⟩
    first | (rw [encI_in hin, putO, if_pos hin]; subst hSy; exact ⟨rfl, hW⟩) | (rw [encI_out hin, putO, if_neg hin]; exact ⟨rfl, hW⟩)
   ·first | replace h12 := of_decide_eq_true h12 | replace h12 := of_decide_eq_false h12 | skip
    exfalso
    apply hin
    unfold inW
    simp at h12
    omega

end Go.Proofs.YthfjagphcekcbaaGreat

-- Ba6
namespace Go.Wx

theorem encT_len (t : List UInt8) : (encT t).length ≤ 10 + t.length := by
  have := encI_len (t.length : Int)
  unfold encT
  rw [List.length_append]
  omega
theorem ba_size (t : ByteArray) : t.data.toList.length = t.size := Array.length_toList
theorem enc_size (c : List UInt8) : (⟨c.toArray⟩ : ByteArray).size = c.length := by simp [ByteArray.size]

end Go.Wx
namespace Go.Proofs.YthfjagphcekcbaaGreat
open Go.Wx Go.RowKit
theorem PutString_any (t : ByteArray) (w : World) (ht : t.size ≤ 65536) : Ret Tryz.prog 116 #[.string t] w fun r w' => r = .tuple #[.string ⟨(encT t.data.toList).toArray⟩, vi 0] ∧ Up w w' := by
  have hW := Up.refl w
  refine Calls_start (n := 18) (m := 9) Tryz.func116 rfl rfl rfl ?_
  refine CW.seq (CW.region (LW.p (PEv.assign (.const _)) rfl rfl rfl (LW.p (PEv.assign (.const _)) rfl rfl rfl (LW.nil (KW.then (CW.seq (CW.seq (CW.region (LW.p (PEv.move (.tmp rfl)) rfl rfl rfl ?_)))))))))
  refine LW.p (PEv.lenStr Tryz.underlying9 (.tmp rfl)) rfl rfl rfl ?_
  refine LW.p (PEv.fa (PEv.gtr (.tmp rfl) (.const _)) (decide_eq_false (by omega))) rfl rfl rfl ?_
  refine LW.nil (KW.then ?_)
  refine CW.cond_false (.tmp rfl) ?_
  refine CW.skip (KW.then (CW.seq (CW.region (LW.p (PEv.move (.tmp rfl)) rfl rfl rfl ?_))))
  refine LW.p (PEv.lenStr Tryz.underlying9 (.tmp rfl)) rfl rfl rfl ?_
  refine LW.c (enter_call0 (.cons (.tmp rfl) .nil) (Tryz.en92)) rfl rfl rfl rfl (PutInt_any _ _) ?_
  rintro _ w1 ⟨rfl, uw1⟩
  have zw1 := uw1.size
  replace hW := hW.up uw1
  refine LW.p (PEv.move (.tmp rfl)) rfl rfl rfl (LW.p (PEv.extract (.tmp rfl) rfl) rfl rfl rfl (LW.p (PEv.extract (.tmp rfl) rfl) rfl rfl rfl (LW.p (PEv.assign (.tmp rfl)) rfl rfl rfl (LW.p (PEv.assign (.tmp rfl)) rfl rfl rfl (LW.nil (KW.then (CW.seq (CW.region (LW.p (PEv.move (.tmp rfl)) rfl rfl rfl (LW.p (PEv.move (.tmp rfl)) rfl rfl rfl ?_))))))))))
  refine LW.p (PEv.addStr (.tmp rfl) (.tmp rfl) (by rw [enc_size]; have := encI_len (t.size : Int); omega)) rfl rfl rfl ?_
  refine LW.p (PEv.assign (.tmp rfl)) rfl rfl rfl (LW.p (PEv.assign (.const _)) rfl rfl rfl (LW.nil (KW.then (CW.ret ?_))))
  refine KW.ret2 rfl rfl rfl ⟨_, rfl, ?_⟩
  refine ⟨?_, hW⟩
  rw [bytes_app, encT, ba_size]

theorem copyCheck_any (D : Wri) (bs : List UInt8) (w : World) (hD : (aWri 93 5 D (bs)).holds w) : Ret Tryz.prog 125 #[.pointer (some ⟨D.bd, 0, none⟩)] w fun r w' => r = .tuple #[] ∧ Stp (aWri 93 5 D (bs)) (aWri 93 5 ⟨D.bd, true, D.bf⟩ (bs)) w w' := by
  have hS := aAnd_open hD
  obtain ⟨B, us, bf⟩ := D
  refine Calls_start (n := 20) (m := 9) Tryz.func125 rfl rfl rfl ?_
  refine CW.seq ?_
  cases hq0 : us with
  | false =>
   subst hq0
   replace hS : Sep _ w w [aBlk B #[.pointer none, bf] 93, aOwn 5 1 eBy bf bs] := hS
   refine CW.region (LW.p (PEv.move (.tmp rfl)) rfl rfl rfl ?_)
   refine LW.p (PEv.nilCheck (.tmp rfl)) rfl rfl rfl ?_
   refine LW.p (PEv.fieldAddr (off := 0) Tryz.underlying91 rfl rfl Tryz.sizeOf88 rfl (.tmp rfl)) rfl rfl rfl ?_
   refine LW.p (PEv.load Tryz.isAgg88 (.tmp rfl) ((hS.blk 0 rfl).celln rfl)) rfl rfl rfl ?_
   refine LW.p (PEv.tr (PEv.eqlNil Tryz.underlying88 (.tmp rfl)) (rfl)) rfl rfl rfl ?_
   refine LW.nil (KW.then ?_)
   refine CW.cond_true (.tmp rfl) ?_
   refine CW.region (LW.p (PEv.move (.tmp rfl)) rfl rfl rfl (LW.p (PEv.move (.tmp rfl)) rfl rfl rfl ?_))
   refine LW.p (PEv.toUns (k := 1) Tryz.underlying88 Tryz.underlying167 (by kernel_rfl) (.tmp rfl) (hS.blk 0 rfl) (by simp)) rfl rfl rfl ?_
   refine LW.p (PEv.ext (.cons (.tmp rfl) .nil) (ext_noEscape Tryz.func145 rfl rfl (by kernel_rfl) (by kernel_rfl) _)) rfl rfl rfl ?_
   refine LW.p (PEv.fromUns (k := 2) Tryz.underlying167 Tryz.underlying88 (by kernel_rfl) (.tmp rfl) (hS.blk 0 rfl) (by kernel_rfl)) rfl rfl rfl ?_
   refine LW.p (PEv.nilCheck (.tmp rfl)) rfl rfl rfl ?_
   refine LW.p (PEv.fieldAddr (off := 0) Tryz.underlying91 rfl rfl Tryz.sizeOf88 rfl (.tmp rfl)) rfl rfl rfl ?_
   refine LW.s (SEv.store Tryz.sizeOf88 (.tmp rfl) (.tmp rfl) rfl (hS.blk 0 rfl) (Nat.le_of_ble_eq_true rfl)) rfl rfl rfl ?_
   intro w1 Nw1
   have zw1 := Nw1.size
   replace hS := hS.putB 0 rfl (show Set_ _ w1 _ (#[.pointer (some ⟨B, 0, none⟩), bf]) _ from Nw1)
   change Wx.Sep _ _ _ [_, _] at hS
   refine LW.nil ?_
   refine KW.end0 rfl ⟨_, rfl, ?_⟩
   exact ⟨rfl, aAnd_close (rest := []) hS⟩
  | true =>
   subst hq0
   replace hS : Sep _ w w [aBlk B #[.pointer (some ⟨B, 0, none⟩), bf] 93, aOwn 5 1 eBy bf bs] := hS
   refine CW.region (LW.p (PEv.move (.tmp rfl)) rfl rfl rfl ?_)
   refine LW.p (PEv.nilCheck (.tmp rfl)) rfl rfl rfl ?_
   refine LW.p (PEv.fieldAddr (off := 0) Tryz.underlying91 rfl rfl Tryz.sizeOf88 rfl (.tmp rfl)) rfl rfl rfl ?_
   refine LW.p (PEv.load Tryz.isAgg88 (.tmp rfl) ((hS.blk 0 rfl).celln rfl)) rfl rfl rfl ?_
   refine LW.p (PEv.fa (PEv.eqlNil Tryz.underlying88 (.tmp rfl)) (rfl)) rfl rfl rfl ?_
   refine LW.nil (KW.then ?_)
   refine CW.cond_false (.tmp rfl) ?_
   refine CW.seq (CW.region (LW.p (PEv.move (.tmp rfl)) rfl rfl rfl ?_))
   refine LW.p (PEv.nilCheck (.tmp rfl)) rfl rfl rfl ?_
   refine LW.p (PEv.fieldAddr (off := 0) Tryz.underlying91 rfl rfl Tryz.sizeOf88 rfl (.tmp rfl)) rfl rfl rfl ?_
   refine LW.p (PEv.load Tryz.isAgg88 (.tmp rfl) ((hS.blk 0 rfl).celln rfl)) rfl rfl rfl ?_
   refine LW.p (PEv.move (.tmp rfl)) rfl rfl rfl ?_
   refine LW.p (PEv.fa (PEv.neqSelf (k := 2) Tryz.underlying88 (by kernel_rfl) (.tmp rfl) (.tmp rfl)) (rfl)) rfl rfl rfl ?_
   refine LW.nil (KW.then ?_)
   refine CW.cond_false (.tmp rfl) ?_
   refine CW.skip ?_
   refine KW.end0 rfl ⟨_, rfl, ?_⟩
   exact ⟨rfl, aAnd_close (rest := []) hS⟩

theorem WriteString_any (t : ByteArray) (D : Wri) (bs : List UInt8) (w : World) (hD : (aWri 93 5 D (bs)).holds w) (hlen : bs.length + t.size ≤ 140737488355328) : Ret Tryz.prog 93 #[.pointer (some ⟨D.bd, 0, none⟩), .string t] w fun r w' => r = .tuple #[vi (t.size : Int), .nilIface] ∧ ∃ bf, Stp (aWri 93 5 D (bs)) (aWri 93 5 ⟨D.bd, true, bf⟩ (bs ++ t.data.toList)) w w' := by
  have hS := Sep.cons hD (fun _ h => h) (Sep.start _ _) (by simp)
  refine Calls_start (n := 19) (m := 9) Tryz.func93 rfl rfl rfl ?_
  refine CW.seq (CW.region (LW.p (PEv.assign (.const _)) rfl rfl rfl (LW.p (PEv.assign (.const _)) rfl rfl rfl (LW.nil (KW.then (CW.seq (CW.region (LW.p (PEv.move (.tmp rfl)) rfl rfl rfl ?_))))))))
  refine LW.c (enter_call0 (.cons (.tmp rfl) .nil) (Tryz.en125)) rfl rfl rfl rfl (copyCheck_any D bs _ (hS.get 0 rfl)) ?_
  rintro _ w1 ⟨rfl, uw1⟩
  have zw1 := uw1.fr.size
  replace hS := hS.stp 0 rfl uw1
  change Wx.Sep _ _ _ [_] at hS
  refine LW.nil (KW.then (CW.seq ?_))
  replace hS := Sep.unfold (Bs := []) (rest := []) hS
  replace hS : Sep _ _ _ [aBlk D.bd #[.pointer (some ⟨D.bd, 0, none⟩), D.bf] 93, aOwn 5 1 eBy D.bf bs] := hS
  refine CW.region (LW.p (PEv.move (.tmp rfl)) rfl rfl rfl (LW.p (PEv.move (.tmp rfl)) rfl rfl rfl ?_))
  refine LW.p (PEv.nilCheck (.tmp rfl)) rfl rfl rfl ?_
  refine LW.p (PEv.fieldAddr (off := 1) Tryz.underlying91 rfl rfl Tryz.sizeOf89 rfl (.tmp rfl)) rfl rfl rfl ?_
  refine LW.p (PEv.load Tryz.isAgg89 (.tmp rfl) ((hS.blk 0 rfl).celln rfl)) rfl rfl rfl ?_
  refine LW.p (PEv.move (.tmp rfl)) rfl rfl rfl ?_
  refine LW.r (REv.appendStr (i := Tryz.t5) Tryz.underlying89 Tryz.underlying9 (by kernel_rfl) rfl rfl rfl (.tmp rfl) (.tmp rfl) (hS.own 1 rfl) (by omega)) rfl rfl rfl rfl ?_
  intro v14 w2 Gw2
  have zw2 := Gw2.fr.size
  replace hS := hS.stp 1 rfl Gw2
  change Wx.Sep _ _ _ [_, _] at hS
  refine LW.p (PEv.nilCheck (.tmp rfl)) rfl rfl rfl ?_
  refine LW.p (PEv.fieldAddr (off := 1) Tryz.underlying91 rfl rfl Tryz.sizeOf89 rfl (.tmp rfl)) rfl rfl rfl ?_
  refine LW.s (SEv.store Tryz.sizeOf89 (.tmp rfl) (.tmp rfl) (hS.own 1 rfl).one (hS.blk 0 rfl) (Nat.le_of_ble_eq_true rfl)) rfl rfl rfl ?_
  intro w3 Nw3
  have zw3 := Nw3.size
  replace hS := hS.putB 0 rfl (show Set_ _ w3 _ (#[.pointer (some ⟨D.bd, 0, none⟩), v14]) _ from Nw3)
  change Wx.Sep _ _ _ [_, _] at hS
  refine LW.nil (KW.then (CW.seq (CW.region (LW.p (PEv.move (.tmp rfl)) rfl rfl rfl ?_))))
  refine LW.p (PEv.lenStr Tryz.underlying9 (.tmp rfl)) rfl rfl rfl ?_
  refine LW.p (PEv.assign (.tmp rfl)) rfl rfl rfl (LW.p (PEv.assign (.const _)) rfl rfl rfl (LW.nil (KW.then (CW.ret ?_))))
  refine KW.ret2 rfl rfl rfl ⟨_, rfl, ?_⟩
  exact ⟨rfl, v14, aAnd_close (rest := []) hS⟩

theorem String_any (D : Wri) (bs : List UInt8) (w : World) (hD : (aWri 93 5 D (bs)).holds w) (hne : bs ≠ []) (hlen : bs.length ≤ 1000000000) : Ret Tryz.prog 56 #[.pointer (some ⟨D.bd, 0, none⟩)] w fun r w' => r = .string ⟨bs.toArray⟩ ∧ Fr (aWri 93 5 D (bs)).foot w w' := by
  have hS := aAnd_open hD
  obtain ⟨B, us, bf⟩ := D
  obtain ⟨g, cp, rfl, hcp⟩ : ∃ g cp, bf = .slice (some ⟨g, 0, none⟩) bs.length cp ∧ cp ≠ 0 := by
    have h0 : 0 < bs.length := List.length_pos_iff.2 hne
    obtain ⟨_, ⟨rfl, hn⟩ | ⟨g, cap, cur, rfl, _, _, hc, _⟩⟩ := aWri_own hD
    · omega
    · exact ⟨g, cap, rfl, by omega⟩
  replace hS : Sep _ w w [aBlk B #[(⟨B, us, .slice (some ⟨g, 0, none⟩) bs.length cp⟩ : Wri).ad, .slice (some ⟨g, 0, none⟩) bs.length cp] 93, aOwn 5 1 eBy (.slice (some ⟨g, 0, none⟩) bs.length cp) bs] := hS
  refine Calls_start (n := 14) (m := 9) Tryz.func56 rfl rfl rfl ?_
  refine CW.seq (CW.region (LW.p (PEv.assign (.const _)) rfl rfl rfl (LW.nil (KW.then (CW.seq ?_)))))
  refine CW.draws_then 10 (by kernel_rfl) (by kernel_rfl) (by kernel_rfl) (by kernel_rfl) (by kernel_rfl) rfl rfl ?_
  refine HW.p (PEv.move (.tmp rfl)) rfl rfl ?_
  refine HW.p (PEv.nilCheck (.tmp rfl)) rfl rfl ?_
  refine HW.p (PEv.fieldAddr (off := 1) Tryz.underlying91 rfl rfl Tryz.sizeOf89 rfl (.tmp rfl)) rfl rfl ?_
  refine HW.p (PEv.load Tryz.isAgg89 (.tmp rfl) ((hS.blk 0 rfl).celln rfl)) rfl rfl ?_
  refine HW.p (PEv.sliceData hcp (.tmp rfl)) rfl rfl ?_
  refine HW.p (PEv.move (.tmp rfl)) rfl rfl ?_
  refine HW.p (PEv.nilCheck (.tmp rfl)) rfl rfl ?_
  refine HW.p (PEv.fieldAddr (off := 1) Tryz.underlying91 rfl rfl Tryz.sizeOf89 rfl (.tmp rfl)) rfl rfl ?_
  refine HW.p (PEv.load Tryz.isAgg89 (.tmp rfl) ((hS.blk 0 rfl).celln rfl)) rfl rfl ?_
  refine HW.p (PEv.lenS Tryz.underlying89 (.tmp rfl)) rfl rfl ?_
  refine HW.nil ?_
  intro w1 uw1
  have zw1 := uw1.size
  replace hS := hS.up uw1
  refine LW.r (REv.unsString Tryz.underlying137 (by kernel_rfl) (.tmp rfl) (.tmp rfl) (hS.own 1 rfl) hne (by omega)) rfl rfl rfl rfl ?_
  rintro _ w2 ⟨rfl, hF⟩
  refine LW.p (PEv.assign (.tmp rfl)) rfl rfl rfl (LW.nil (KW.then (CW.ret ?_)))
  refine KW.ret1 rfl rfl ⟨_, rfl, ?_⟩
  exact ⟨rfl, hS.fr.next hF (fun i hi => .inl (aWri_foot' (.inr hi)))⟩

theorem WriteString_b (b : Nat) (t : ByteArray) (D : Wri) (bs : List UInt8) (w : World) (hD : (aWri 93 5 D (bs)).holds w) (hb : D.bd = b) (hlen : bs.length + t.size ≤ 140737488355328) : Ret Tryz.prog 93 #[.pointer (some ⟨b, 0, none⟩), .string t] w fun r w' => r = .tuple #[vi (t.size : Int), .nilIface] ∧ ∃ bf, Stp (aWri 93 5 D (bs)) (aWri 93 5 ⟨b, true, bf⟩ (bs ++ t.data.toList)) w w' := by subst hb; exact WriteString_any t D bs w hD hlen
theorem put_any (ad : Option Addr) (cp : Nat) (l : List Int) (D : Wri) (bs : List UInt8) (w : World) (hD : (aWri 93 5 D (bs)).holds w) (hE0 : Els w ad 1 eInt l) (hne : ∀ B o, ad = some ⟨B, o, none⟩ → ¬ (aWri 93 5 D (bs)).foot B) (hlen : bs.length + 10 * l.length ≤ 1000000000) : Ret Tryz.prog 52 #[.pointer (some ⟨D.bd, 0, none⟩), .slice ad l.length cp] w fun r w' => r = .tuple #[] ∧ ∃ D', D'.bd = D.bd ∧ Stp (aWri 93 5 D (bs)) (aWri 93 5 D' (bs ++ encIs l)) w w' := by
  obtain ⟨w0, rfl⟩ : ∃ w0, w0 = w := ⟨_, rfl⟩
  have hS := Sep.cons hD (fun _ h => h) (Sep.start _ _) (by simp)
  refine Calls_start (n := 25) (m := 9) Tryz.func52 rfl rfl rfl ?_
  refine CW.seq (CW.region (LW.p (PEv.move (.tmp rfl)) rfl rfl rfl ?_))
  refine LW.p (PEv.lenS Tryz.underlying32 (.tmp rfl)) rfl rfl rfl ?_
  refine LW.p (PEv.move (.const _)) rfl rfl rfl ?_
  refine LW.nil (KW.then (CW.block ?_))
  refine CW.loopB (σ := Nat × Wri) (fun s w => (s.1 ≤ l.length) ∧ (s.2.bd = D.bd) ∧ (Sep (aWri 93 5 D (bs)).foot w0 w [aWri 93 5 s.2 (bs ++ encIs (l.take s.1))])) (fun s => [(10, .eq (vi (s.1 : Int)))]) ([(0, .eq _), (8, .eq _), (9, .eq _)]) (fun s => l.length - s.1) (0, D) ?_ ⟨rfl, rfl, rfl, rfl, trivial⟩ ?_
  ·exact ⟨Nat.zero_le _, rfl, by simpa [encIs] using hS⟩
  ·rintro ⟨k, D1⟩ w1 ⟨hkk, hbd, hS⟩
   dsimp only at hkk hbd hS
   refine CW.seq (CW.region ?_)
   refine LW.p (PEv.lss (.tmp rfl) (.tmp rfl)) rfl rfl rfl ?_
   refine LW.nil (KW.then (CW.seq ?_))
   refine CW.cond (.tmp rfl) (fun h11 => ?_) (fun h11 => ?_)
   ·first | replace h11 := of_decide_eq_true h11 | replace h11 := of_decide_eq_false h11 | skip
    refine CW.skip (KW.then (CW.seq (CW.block (CW.seq ?_))))
    have hE := hE0.fr hS.fr hne
    have hkl : k < l.length := by simp at h11; omega
    refine CW.region ?_
    obtain ⟨x, hx⟩ := getElem?_of_lt (xs := l) (i := k) (by omega)
    obtain ⟨Bx, ox, ax, hcx⟩ := hE _ x hx
    refine LW.p (PEv.indexAddr' Tryz.underlying32 Tryz.sizeOf3 (.tmp rfl) (.tmp rfl) (by omega) ax) rfl rfl rfl ?_
    refine LW.p (PEv.load Tryz.isAgg3 (.tmp rfl) (hcx.nth (j := 0) rfl)) rfl rfl rfl ?_
    refine LW.p (PEv.assign (.tmp rfl)) rfl rfl rfl (LW.nil (KW.then (CW.seq (CW.region (LW.p (PEv.move (.tmp rfl)) rfl rfl rfl ?_)))))
    refine LW.c (enter_call0 (.cons (.tmp rfl) .nil) (Tryz.en92)) rfl rfl rfl rfl (PutInt_any x _) ?_
    rintro _ w2 ⟨rfl, uw2⟩
    have zw2 := uw2.size
    replace hS := hS.up uw2
    refine LW.p (PEv.move (.tmp rfl)) rfl rfl rfl (LW.p (PEv.extract (.tmp rfl) rfl) rfl rfl rfl (LW.p (PEv.extract (.tmp rfl) rfl) rfl rfl rfl (LW.p (PEv.assign (.tmp rfl)) rfl rfl rfl (LW.p (PEv.assign (.tmp rfl)) rfl rfl rfl (LW.nil (KW.then (CW.region (LW.p (PEv.move (.tmp rfl)) rfl rfl rfl ?_))))))))
    refine LW.p (PEv.nilCheck (.tmp rfl)) rfl rfl rfl ?_
    refine LW.p (PEv.fieldAddr (off := 0) Tryz.underlying93 rfl rfl Tryz.sizeOf91 rfl (.tmp rfl)) rfl rfl rfl ?_
    refine LW.p (PEv.move (.tmp rfl)) rfl rfl rfl ?_
    refine LW.c (enter_call0 (.cons (.tmp rfl) (.cons (.tmp rfl) .nil)) (Tryz.en93)) rfl rfl rfl rfl (WriteString_b D.bd _ D1 _ _ (hS.get 0 rfl) hbd (by rw [enc_size, List.length_append]; have := encI_len x; have := encIs_len (l.take k); have := List.length_take_le k l; omega)) ?_
    rintro _ w3 ⟨rfl, bf, uw3⟩
    have zw3 := uw3.fr.size
    replace hS := hS.stp 0 rfl uw3
    change Wx.Sep _ _ _ [_] at hS
    refine LW.nil (KW.inBlock (KW.then (CW.region ?_)))
    refine LW.p (PEv.inc (.tmp rfl) (by omega)) rfl rfl rfl ?_
    refine LW.p (PEv.move (.tmp rfl)) rfl rfl rfl (LW.nil (KW.round ?_))
    exact ⟨(k + 1, ⟨D.bd, true, bf⟩), ⟨by omega, rfl, by rw [encIs_take hx, ← List.append_assoc]; exact hS⟩, ⟨rfl, rfl, rfl, rfl, trivial⟩, by first | omega | (dsimp only; omega)⟩
   ·first | replace h11 := of_decide_eq_true h11 | replace h11 := of_decide_eq_false h11 | skip
    refine CW.exit (KW.then_exit (KW.then_exit (KW.block_hit ?_)))
    refine KW.end0 rfl ⟨_, rfl, ?_⟩
    have hk2 : l.take k = l := List.take_of_length_le (by simp at h11; omega)
    rw [hk2] at hS
    exact ⟨rfl, D1, hbd, ⟨hS.fr, hS.get 0 rfl, hS.foot 0 rfl⟩⟩
end Go.Proofs.YthfjagphcekcbaaGreat

-- Ba7
namespace Go.Wx

theorem keyF_ok (k : Int) : ∀ x ∈ keyFOf k, okOff x.off = true := by
  intro x hx
  have h : ∀ l ∈ shapeK, ∀ y ∈ l, okOff y.off = true := by decide
  unfold keyFOf at hx
  rw [List.getD_eq_getElem?_getD] at hx
  cases hl : shapeK[k.toNat]? with
  | none => rw [hl] at hx; simp at hx
  | some l => rw [hl] at hx; exact h l (List.mem_of_getElem? hl) x (by simpa using hx)
theorem keyF_len (k : Int) : (keyFOf k).length ≤ 16 := by
  have h : ∀ l ∈ shapeK, l.length ≤ 16 := by decide
  unfold keyFOf
  rw [List.getD_eq_getElem?_getD]
  cases hl : shapeK[k.toNat]? with
  | none => simp
  | some l => exact h l (List.mem_of_getElem? hl)
def valsOf (fs : List Fld) (f : Fact) : List Int := fs.map fun x => getF f x.off
theorem valsOf_len (fs : List Fld) (f : Fact) : (valsOf fs f).length = fs.length := by simp [valsOf]
theorem valsOf_take {fs : List Fld} {f : Fact} {k : Nat} {x : Fld} (h : fs[k]? = some x) : (valsOf fs f).take (k + 1) = (valsOf fs f).take k ++ [getF f x.off] := take_succ_of (by simp [valsOf, h])
def flagI (b : Bool) : Int := if b then 1 else 0
def keyL (f : Fact) : List Int := f.Kind :: valsOf (keyFOf f.Kind) f
def keyB (f : Fact) : List UInt8 := if validB f then encIs (keyL f) else []
def encL (f : Fact) : List Int := [f.Kind, f.Version, f.Day, flagI f.Gone] ++ valsOf (fieldsOf f.Kind) f
def encB (f : Fact) : List UInt8 := encIs (encL f) ++ if textOf f.Kind then encT f.Text.data.toList else []
def codeB (f : Fact) : List UInt8 := if validB f then encB f else []
def prevB (a b : Fact) : Bool := validB a && validB b && (keyB a == keyB b) && (decide (b.Version < a.Version) || (decide (a.Version = b.Version) && decide (0 < Go.Lib.compareBytes (encB a) (encB b))))
theorem valid_kind {f : Fact} (h : validB f = true) : 1 ≤ f.Kind ∧ f.Kind ≤ 11 := by
  unfold validB at h
  simp only [Bool.and_eq_true, decide_eq_true_eq] at h
  exact h.1
theorem valid_pre {f : Fact} (h : validB f = true) : preB f = false := by
  unfold validB at h
  simp only [Bool.and_eq_true] at h
  have := h.2.1
  simp only [Bool.not_eq_true', Bool.or_eq_false_iff] at this
  exact this.1
theorem valid_text {f : Fact} (h : validB f = true) : f.Text.size ≤ 8192 := by
  have := valid_pre h
  simp only [preB, Bool.or_eq_false_iff, decide_eq_false_iff_not] at this
  omega
theorem keyB_ne {f : Fact} (h : validB f = true) : encIs (keyL f) ≠ [] := by
  have hk := valid_kind h
  intro e
  unfold keyL encIs at e
  rw [List.flatMap_cons, List.append_eq_nil_iff] at e
  exact encI_ne (by unfold inW; omega) e.1
theorem encB_ne {f : Fact} (h : validB f = true) : encB f ≠ [] := by
  have hk := valid_kind h
  intro e
  unfold encB encL encIs at e
  rw [List.append_eq_nil_iff, List.cons_append, List.flatMap_cons, List.append_eq_nil_iff] at e
  exact encI_ne (by unfold inW; omega) e.1.1

end Go.Wx
namespace Go.Proofs.YthfjagphcekcbaaGreat
open Go.Wx Go.RowKit
theorem put_b (b : Nat) (ad : Option Addr) (cp : Nat) (l : List Int) (D : Wri) (bs : List UInt8) (w : World) (hD : (aWri 93 5 D (bs)).holds w) (hb : D.bd = b) (hE0 : Els w ad 1 eInt l) (hne : ∀ B o, ad = some ⟨B, o, none⟩ → ¬ (aWri 93 5 D (bs)).foot B) (hlen : bs.length + 10 * l.length ≤ 1000000000) : Ret Tryz.prog 52 #[.pointer (some ⟨b, 0, none⟩), .slice ad l.length cp] w fun r w' => r = .tuple #[] ∧ ∃ D', D'.bd = b ∧ Stp (aWri 93 5 D (bs)) (aWri 93 5 D' (bs ++ encIs l)) w w' := by subst hb; exact put_any ad cp l D bs w hD hE0 hne hlen
theorem String_b (b : Nat) (D : Wri) (bs : List UInt8) (w : World) (hD : (aWri 93 5 D (bs)).holds w) (hb : D.bd = b) (hne : bs ≠ []) (hlen : bs.length ≤ 1000000000) : Ret Tryz.prog 56 #[.pointer (some ⟨b, 0, none⟩)] w fun r w' => r = .string ⟨bs.toArray⟩ ∧ Fr (aWri 93 5 D (bs)).foot w w' := by subst hb; exact String_any D bs w hD hne hlen
theorem flag_any (b : Bool) (w : World) : Ret Tryz.prog 115 #[.bool b] w fun r w' => r = vi (flagI b) ∧ Up w w' := by
  have hW := Up.refl w
  refine Calls_start (n := 4) (m := 9) Tryz.func115 rfl rfl rfl ?_
  refine CW.seq (CW.region (LW.p (PEv.assign (.const _)) rfl rfl rfl (LW.nil (KW.then (CW.seq (CW.seq (CW.region (LW.p (PEv.move (.tmp rfl)) rfl rfl rfl (LW.nil (KW.then ?_))))))))))
  refine CW.cond (.tmp rfl) (fun h3 => ?_) (fun h3 => ?_)
  ·first | replace h3 := of_decide_eq_true h3 | replace h3 := of_decide_eq_false h3 | skip
   refine CW.seq (CW.region (LW.p (PEv.assign (.const _)) rfl rfl rfl (LW.nil (KW.then (CW.ret (KW.then_ret ?_))))))
   refine KW.ret1 rfl rfl ⟨_, rfl, ?_⟩
   refine ⟨?_, hW⟩
   simp [flagI, h3]
  ·first | replace h3 := of_decide_eq_true h3 | replace h3 := of_decide_eq_false h3 | skip
   refine CW.skip (KW.then (CW.seq (CW.region (LW.p (PEv.assign (.const _)) rfl rfl rfl (LW.nil (KW.then (CW.ret ?_)))))))
   refine KW.ret1 rfl rfl ⟨_, rfl, ?_⟩
   refine ⟨?_, hW⟩
   simp [flagI, h3]

theorem numbers_any (f : Fact) (ad : Option Addr) (k cp : Nat) (w : World) : Ret Tryz.prog 54 #[.agg f.cells, .slice ad k cp] w fun r w' => (∃ Ba Bb, r = .func (.func 94) #[] #[.pointer (some ⟨Ba, 0, none⟩), .pointer (some ⟨Bb, 0, none⟩)] ∧ Blk w' Ba #[.slice ad k cp] 97 ∧ Blk w' Bb f.cells 46) ∧ Up w w' := by
  have hW := Up.refl w
  refine Calls_start (n := 6) (m := 9) Tryz.func54 rfl rfl rfl ?_
  refine CW.seq (CW.region ?_)
  refine LW.r (REv.boxA (.tmp rfl)) rfl rfl rfl rfl ?_
  rintro _ w1 ⟨B2, rfl, NB2⟩
  have eB2 := NB2.at_
  have zB2 := NB2.size
  replace hW := hW.up NB2.up
  have hB2 := NB2.blk
  refine LW.r (REv.box1 (.tmp rfl) rfl) rfl rfl rfl rfl ?_
  rintro _ w2 ⟨B3, rfl, NB3⟩
  have eB3 := NB3.at_
  have zB3 := NB3.size
  replace hW := hW.up NB3.up
  replace hB2 := hB2.up NB3.up
  have hB3 := NB3.blk
  refine LW.p (PEv.assign (.const _)) rfl rfl rfl (LW.nil (KW.then (CW.seq (CW.region ?_))))
  refine LW.p (PEv.makeFunc (.cons (.tmp rfl) (.cons (.tmp rfl) .nil))) rfl rfl rfl ?_
  refine LW.p (PEv.assign (.tmp rfl)) rfl rfl rfl (LW.nil (KW.then (CW.ret ?_)))
  refine KW.ret1 rfl rfl ⟨_, rfl, ?_⟩
  exact ⟨⟨_, _, rfl, hB3, hB2⟩, hW⟩

theorem numbers_iter (X Y : Nat → Prop) (B3 B2 : Nat) (ad : Option Addr) (cp : Nat) (l : List Fld) (f : Fact) (w : World) (hEX : ∀ B o, ad = some ⟨B, o, none⟩ → ¬ X B) (hQX : ¬ X B3) (hFX : ¬ X B2) (hQ0 : Blk w B3 #[.slice ad l.length cp] 97) (hF0 : Blk w B2 f.cells 46) (hE0 : Els w ad 3 Fld.cells l) (hlen : l.length ≤ 1000) (hok : ∀ x ∈ l, okOff x.off = true) :
    IterS Tryz.prog 94 #[.pointer (some ⟨B3, 0, none⟩), .pointer (some ⟨B2, 0, none⟩)] eInt X Y (fun ys => ys = valsOf l f) (fun pre => pre <+: valsOf l f) (valsOf l f).length w := by
  refine IterS.of ?_
  intro lp J Jx w0 hUw _ hY hJ
  obtain ⟨Bd, hBd⟩ : ∃ Bd, Bd = w0.heap.size := ⟨_, rfl⟩
  rw [← hBd] at hJ hY
  clear hBd
  have hQ := hQ0.up hUw
  have hF := hF0.up hUw
  have hE := Els.up hE0 hUw
  refine Calls_start (n := 21) (m := 9) Tryz.func94 rfl rfl rfl ?_
  refine CW.seq (CW.region ?_)
  refine LW.p (PEv.load Tryz.isAgg97 (.tmp rfl) (hQ.celln rfl)) rfl rfl rfl ?_
  refine LW.p (PEv.lenS Tryz.underlying97 (.tmp rfl)) rfl rfl rfl ?_
  refine LW.p (PEv.move (.const _)) rfl rfl rfl ?_
  refine LW.nil (KW.then (CW.block ?_))
  refine CW.loop (σ := Nat) (fun s w => s ≤ l.length ∧ Jw Bd J ((valsOf l f).take s) w ∧ Els w ad 3 Fld.cells l ∧ Blk w B3 #[.slice ad l.length cp] 97 ∧ Blk w B2 f.cells 46) (fun s => [(0, .eq (.func (.yield lp) #[] #[])), (1, .eq (.pointer (some ⟨B3, 0, none⟩))), (2, .eq (.pointer (some ⟨B2, 0, none⟩))), (6, .eq (.slice ad l.length cp)), (7, .eq (vi (l.length : Int))), (8, .eq (vi (s : Int)))]) (fun s => l.length - s) 0 ?_ ?_ ?_
  ·exact ⟨Nat.zero_le _, hJ, hE, hQ, hF⟩
  ·exact ⟨rfl, rfl, rfl, rfl, rfl, rfl, trivial⟩
  ·rintro k w1 ⟨hk, hJ, hE, hQ, hF⟩
   refine CW.seq (CW.region ?_)
   refine LW.p (PEv.lss (.tmp rfl) (.tmp rfl)) rfl rfl rfl ?_
   refine LW.nil (KW.then (CW.seq ?_))
   refine CW.cond (.tmp rfl) (fun h9 => ?_) (fun h9 => ?_)
   ·first | replace h9 := of_decide_eq_true h9 | replace h9 := of_decide_eq_false h9 | skip
    refine CW.skip (KW.then (CW.seq (CW.block (CW.seq ?_))))
    have hkl : k < l.length := by simp at h9; omega
    refine CW.region ?_
    obtain ⟨x, hx⟩ := getElem?_of_lt (xs := l) (i := k) (by omega)
    obtain ⟨Bx, ox, ax, hcx⟩ := hE _ x hx
    refine LW.p (PEv.indexAddr' Tryz.underlying97 Tryz.sizeOf126 (.tmp rfl) (.tmp rfl) (by omega) ax) rfl rfl rfl ?_
    refine LW.p (PEv.loadA Tryz.isAgg126 Tryz.sizeOf126 rfl (.tmp rfl) (hcx)) rfl rfl rfl ?_
    refine LW.r (REv.allocA Tryz.zeroValue126) rfl rfl rfl rfl ?_
    rintro _ w2 ⟨B5, rfl, MB5⟩
    refine LW.s (SEv.storeA Tryz.sizeOf126 rfl (.tmp rfl) (.tmp rfl) (Fld.one _) MB5.blk rfl) rfl rfl rfl ?_
    intro w3 LB5
    have NB5 := MB5.set LB5
    clear LB5 MB5
    have eB5 := NB5.at_
    have zB5 := NB5.size
    replace hJ := hJ.up NB5.up
    replace hE := hE.up NB5.up
    replace hQ := hQ.up NB5.up
    replace hF := hF.up NB5.up
    replace hcx := hcx.up NB5.up
    have hB5 := NB5.blk
    refine LW.nil (KW.then (CW.seq ?_))
    have hox := hok x (List.mem_of_getElem? hx)
    refine CW.region (LW.p (PEv.move (.tmp rfl)) rfl rfl rfl ?_)
    refine LW.p (PEv.fieldAddr (off := 0) Tryz.underlying126 rfl rfl Tryz.sizeOf124 rfl (.tmp rfl)) rfl rfl rfl ?_
    refine LW.p (PEv.load Tryz.isAgg124 (.tmp rfl) (hB5.celln rfl)) rfl rfl rfl ?_
    refine LW.c (enter_callv (.tmp rfl) (.cons (.tmp rfl) .nil) (get_en x.off hox)) rfl rfl rfl rfl (get_any x.off _ _ hox) ?_
    rintro _ w4 ⟨rfl, uw4⟩
    have zw4 := uw4.size
    replace hJ := hJ.up uw4
    replace hE := hE.up uw4
    replace hQ := hQ.up uw4
    replace hF := hF.up uw4
    replace hcx := hcx.up uw4
    replace hB5 := hB5.up uw4
    refine LW.p (PEv.nilCheck (.tmp rfl)) rfl rfl rfl ?_
    refine LW.p (PEv.load Tryz.isAgg3 (.tmp rfl) (hF.celln (getF_cell hox))) rfl rfl rfl ?_
    refine LW.y (.tmp rfl) (.cons (.tmp rfl) .nil) rfl rfl (hY _ (getF f x.off) _ hJ (by rw [List.length_take, valsOf_len]; omega)) ?_
    rintro _ w5 ⟨y, rfl, hcase⟩
    refine LW.p (PEv.not (.tmp rfl)) rfl rfl rfl ?_
    refine LW.nil (KW.then ?_)
    refine CW.cond (.tmp rfl) (fun h19 => ?_) (fun h19 => ?_)
    ·first | replace h19 := of_decide_eq_true h19 | replace h19 := of_decide_eq_false h19 | skip
     have hy : y = false := by simpa using h19
     subst hy
     obtain ⟨_, hJx⟩ := hcase.resolve_left (by simp)
     refine CW.ret (KW.block_ret (KW.then_ret (KW.then_ret (KW.block_ret ?_))))
     refine KW.ret0 rfl ⟨_, rfl, ?_⟩
     first | exact .inl ⟨_, rfl, by rw [hkk, ← valsOf_len l f, List.take_length] at hJ; exact hJ.j⟩ | exact .inr ⟨_, by rw [← valsOf_take hx]; exact List.take_prefix _ _, hJx⟩
    ·first | replace h19 := of_decide_eq_true h19 | replace h19 := of_decide_eq_false h19 | skip
     have hy : y = true := by simpa using h19
     subst hy
     obtain ⟨_, hJ2, hN⟩ := hcase.resolve_right (by simp)
     replace hE := hE.kx hN hEX
     replace hQ := hQ.kx hN hQX
     replace hF := hF.kx hN hFX
     rw [← valsOf_take hx] at hJ2
     refine CW.skip (KW.inBlock (KW.then (CW.region ?_)))
     refine LW.p (PEv.inc (.tmp rfl) (by omega)) rfl rfl rfl ?_
     refine LW.p (PEv.move (.tmp rfl)) rfl rfl rfl (LW.nil (KW.round ?_))
     exact ⟨k + 1, ⟨by omega, hJ2, hE, hQ, hF⟩, ⟨rfl, rfl, rfl, rfl, rfl, rfl, trivial⟩, by omega⟩
   ·first | replace h9 := of_decide_eq_true h9 | replace h9 := of_decide_eq_false h9 | skip
    have hkk : k = l.length := by simp at h9; omega
    refine CW.exit (KW.then_exit (KW.then_exit (KW.block_hit ?_)))
    refine KW.end0 rfl ⟨_, rfl, ?_⟩
    first | exact .inl ⟨_, rfl, by rw [hkk, ← valsOf_len l f, List.take_length] at hJ; exact hJ.j⟩ | exact .inr ⟨_, by rw [← valsOf_take hx]; exact List.take_prefix _ _, hJx⟩
end Go.Proofs.YthfjagphcekcbaaGreat

-- Ba8
namespace Go.Proofs.YthfjagphcekcbaaGreat
open Go.Wx Go.RowKit
theorem putAll_any (gf : Nat) (lb : Array Go.Value) (vals : List Int) (Sp : List Int → Prop) (D : Wri) (bs : List UInt8) (w : World) (hD : (aWri 93 5 D (bs)).holds w) (en : ∀ args w, (callFunc gf args).run Tryz.prog w = .ok (.enter gf args) w) (hit : ∀ W (X : Nat → Prop), Up w W → (∀ i, X i → (aWri 93 5 D (bs)).foot i ∨ w.heap.size ≤ i) → IterS Tryz.prog gf lb eInt X (fun _ => False) (fun ys => ys = vals) Sp vals.length W) (hlen : bs.length + 10 * vals.length ≤ 1000000) : Ret Tryz.prog 53 #[.pointer (some ⟨D.bd, 0, none⟩), .func (.func gf) #[] lb] w fun r w' => r = .tuple #[] ∧ ∃ D', D'.bd = D.bd ∧ Stp (aWri 93 5 D (bs)) (aWri 93 5 D' (bs ++ encIs vals)) w w' := by
  have hW := Up.refl w
  obtain ⟨w0, rfl⟩ : ∃ w0, w0 = w := ⟨_, rfl⟩
  have hU0 : Stp (aWri 93 5 D (bs)) (aWri 93 5 D (bs)) w0 w0 := Stp.refl hD
  refine Calls_startM (n := 11) Tryz.func53 rfl rfl rfl ?_
  refine CW.seq (CW.region ?_)
  refine LW.r (REv.box1 (.tmp rfl) rfl) rfl rfl rfl rfl ?_
  rintro _ w1 ⟨B2, rfl, NB2⟩
  have eB2 := NB2.at_
  have zB2 := NB2.size
  replace hW := hW.up NB2.up
  replace hU0 := hU0.up NB2.up
  have hB2 := NB2.blk
  refine LW.nil (KW.then (CW.seq (CW.region (LW.p (PEv.move (.tmp rfl)) rfl rfl rfl (LW.nil (KW.then (CW.block ?_)))))))
  obtain ⟨bq, hbq⟩ : ∃ bq, bq = w1.heap.size := ⟨_, rfl⟩
  refine CW.rangeFunc (fun i => (aWri 93 5 D (bs)).foot i ∨ bq ≤ i) (fun _ => False) (fun pre W => Sz bq W ∧ ∃ D1 : Wri, D1.bd = D.bd ∧ Blk W B2 #[.pointer (some ⟨D.bd, 0, none⟩)] 87 ∧ Stp (aWri 93 5 D (bs)) (aWri 93 5 D1 (bs ++ encIs pre)) w1 W) (fun c pre W => Sz bq W ∧ False) (fun x a' W => Ag 11 [] ([(4, .eq (vi x)), (2, .eq (.pointer (some ⟨B2, 0, none⟩)))]) a' W) (.tmp rfl) en (hit _ _ hW (fun i hi => hi.imp id (fun h => by omega))) (fun _ => rfl) rfl ?_ ?_ ?_ ?_ ?_ ?_ ?_ ?_
  ·rw [← hbq]
   intro pre W W' row hs hg hr
   obtain ⟨hZ, D1, hbd, hB2, hUp⟩ := hs
   exact ⟨hZ.ko (Ko.grown hg hr), D1, hbd, hB2.ko (Ko.grown hg hr), hUp.ko (Ko.grown hg hr) (by omega)⟩
  ·rw [← hbq]
   intro c pre W W' row hs hg hr
   obtain ⟨hZ, hF⟩ := hs
   exact ⟨hZ.ko (Ko.grown hg hr), hF⟩
  ·intro x a' u W W' row hs hg hr
   exact hs.world rfl _
  ·exact ⟨Nat.le_of_eq hbq, _, rfl, hB2, by simpa [encIs] using Stp.refl hU0.holds⟩
  ·rw [← hbq]
   intro lp pre x w2 K hs hk a ha
   obtain ⟨hZ, D1, hbd, hB2, hUp⟩ := hs
   have zq := hZ.le
   have hK := Kf.refl bq w2
   have hN := Kx.refl bq (fun i => (aWri 93 5 D (bs)).foot i ∨ bq ≤ i) (fun _ => False) w2
   revert a
   refine CW.assign1 (p := 6) rfl ?_
   refine CW.region (LW.p (PEv.assign (.tmp rfl)) rfl rfl rfl (LW.nil ?_))
   exact fun a ha => hk a _ hK hN ⟨hZ, D1, hbd, hB2, hUp⟩ (ha.sub ⟨rfl, rfl, trivial⟩)
  ·rw [← hbq]
   intro lp pre x a' w3 hs hx hlt
   obtain ⟨hZ, D1, hbd, hB2, hUp⟩ := hs
   have ha := hx
   have zq := hZ.le
   have hK := Kf.refl bq w3
   have hN := Kx.refl bq (fun i => (aWri 93 5 D (bs)).foot i ∨ bq ≤ i) (fun _ => False) w3
   refine (show CW (some lp) 8 _ 11 [] _ (ownPostG bq (Kx bq (fun i => (aWri 93 5 D (bs)).foot i ∨ bq ≤ i) (fun _ => False)) _ _ (pre ++ [x]) w3) ([(4, .eq (vi x)), (2, .eq (.pointer (some ⟨B2, 0, none⟩)))]) w3 from ?_) a' ha
   have zw1 := hUp.fr.size
   refine CW.block (CW.region ?_)
   refine LW.p (PEv.load Tryz.isAgg87 (.tmp rfl) (hB2.celln rfl)) rfl rfl rfl ?_
   refine LW.p (PEv.move (.tmp rfl)) rfl rfl rfl ?_
   refine LW.r (REv.buildSlice (xs := [x]) (enc := eInt) (mk := vi) Tryz.underlying32 Tryz.sizeOf3 Tryz.zeroValue3 rfl (by decide) (fun _ => rfl) (fun _ => rfl) (.cons (.tmp rfl) .nil) rfl) rfl rfl rfl rfl ?_
   rintro _ w4 ⟨B9, cB9, rfl, NB9, yB9, xB9⟩
   have eB9 := NB9.at_
   have zB9 := NB9.size
   replace hZ := hZ.up NB9.up
   replace hB2 := hB2.up NB9.up
   replace hUp := hUp.up NB9.up
   replace hK := hK.up NB9.up
   replace hN := hN.up NB9.up
   have hB9 := NB9.blk
   have hE9 := xB9
   refine LW.c (enter_call0 (.cons (.tmp rfl) (.cons (.tmp rfl) .nil)) (Tryz.en52)) rfl rfl rfl rfl (put_b D.bd _ _ [x] D1 _ _ hUp.holds hbd hE9 (fun B o e => by cases e; exact aWri_ne hUp.holds hB9 rfl rfl) (by rw [List.length_append]; have := encIs_len pre; simp; omega)) ?_
   rintro _ w5 ⟨rfl, D2, hb2, hP2⟩
   have hWc := aWri_cells hUp.holds
   have hXs : ∀ i, (aWri 93 5 D1 (bs ++ encIs pre)).foot i → ((aWri 93 5 D (bs)).foot i ∨ bq ≤ i) := fun i hi => (hUp.sub i hi).imp id (fun h => by omega)
   replace hN := hN.trans (Kx.fr (bq := bq) (Y := fun _ => False) hP2.fr hXs hWc)
   replace hK := hK.trans (Kf.fr (bq := bq) hP2.fr hWc)
   replace hB2 := hB2.fr hP2.fr (aWri_ne hUp.holds hB2 rfl rfl)
   replace hUp := hUp.trans hP2
   rw [List.append_assoc, encIs_one, ← encIs_snoc] at hUp
   have hZ2 : Sz bq w5 := Nat.le_trans hZ.le hP2.fr.size
   refine LW.nil (KW.inBlock ?_)
   exact fun a ha => ⟨hK, hN, hZ2, D2, hb2, hB2, hUp⟩
  ·intro D ys w6 hDb hS hs hD
   rw [← hbq] at hDb
   obtain ⟨hZ, D1, hbd, hB2, hUp⟩ := hs
   replace hD : Ob w6 D (.deferred (some [])) := hD
   have zD := hD.lt
   have zq := hZ.le
   refine KW.inBlock ?_
   refine KW.unmark hD rfl ?_
   replace hZ := hZ.ko (Ko.putObj (.deferred none) hD rfl hDb)
   replace hB2 := hB2.ko (Ko.putObj (.deferred none) hD rfl hDb)
   replace hUp := hUp.ko (Ko.putObj (.deferred none) hD rfl hDb) (by omega)
   refine KW.ret0 rfl ⟨_, rfl, ?_⟩
   subst hS
   exact ⟨rfl, D1, hbd, hU0.trans hUp⟩
  ·intro D c pre w7 hDb hpre hs hD
   rw [← hbq] at hDb
   obtain ⟨hZ, hF⟩ := hs
   replace hD : Ob w7 D (.deferred (some [])) := hD
   have zD := hD.lt
   have zq := hZ.le
   exact hF.elim
end Go.Proofs.YthfjagphcekcbaaGreat

-- Ba9
namespace Go.Wx

theorem encIs_app (a b : List Int) : encIs (a ++ b) = encIs a ++ encIs b := by simp [encIs]
theorem keyLen1 (f : Fact) : ([] ++ encIs [f.Kind]).length + 10 * (keyFOf f.Kind).length ≤ 10000 := by
  have h1 := keyF_len f.Kind
  have h2 := encIs_len [f.Kind]
  rw [List.nil_append]
  simp only [List.length_cons, List.length_nil] at h2
  omega
theorem keyLen2 (f : Fact) : (encIs (keyL f)).length ≤ 1000000000 := by
  have h1 := keyF_len f.Kind
  have h2 := encIs_len (keyL f)
  have h3 : (keyL f).length = 1 + (keyFOf f.Kind).length := by simp [keyL, valsOf]; omega
  omega

end Go.Wx
namespace Go.Proofs.YthfjagphcekcbaaGreat
open Go.Wx Go.RowKit
theorem putNums_b (b : Nat) (Ba Bb : Nat) (ad : Option Addr) (cp : Nat) (l : List Fld) (f : Fact) (D : Wri) (bs : List UInt8) (w : World) (hD : (aWri 93 5 D (bs)).holds w) (hb : D.bd = b) (hQ : Blk w Ba #[.slice ad l.length cp] 97) (hF : Blk w Bb f.cells 46) (hE : Els w ad 3 Fld.cells l) (hT : ∀ B o, ad = some ⟨B, o, none⟩ → B < w.heap.size ∧ ¬ (aWri 93 5 D (bs)).foot B) (hlen : bs.length + 10 * l.length ≤ 10000) (hok : ∀ x ∈ l, okOff x.off = true) :
    Ret Tryz.prog 53 #[.pointer (some ⟨b, 0, none⟩), .func (.func 94) #[] #[.pointer (some ⟨Ba, 0, none⟩), .pointer (some ⟨Bb, 0, none⟩)]] w fun r w' => r = .tuple #[] ∧ ∃ D', D'.bd = b ∧ Stp (aWri 93 5 D (bs)) (aWri 93 5 D' (bs ++ encIs (valsOf l f))) w w' := by
  subst hb
  refine putAll_any 94 _ (valsOf l f) (fun pre => pre <+: valsOf l f) D bs w hD Tryz.en94 ?_ (by rw [valsOf_len]; omega)
  intro W X hU hX
  refine numbers_iter X (fun _ => False) Ba Bb ad cp l f W (fun B o e hx => ?_) (fun hx => ?_) (fun hx => ?_) (hQ.up hU) (hF.up hU) (Els.up hE hU) (by omega) hok
  · obtain ⟨h1, h2⟩ := hT B o e
    exact (hX B hx).elim h2 (fun h => by omega)
  · have := hQ.lt
    exact (hX Ba hx).elim (aWri_ne hD hQ rfl rfl) (fun h => by omega)
  · have := hF.lt
    exact (hX Bb hx).elim (aWri_ne hD hF rfl rfl) (fun h => by omega)

theorem Key_any (f : Fact) (w : World) : Ret Tryz.prog 33 #[.agg f.cells] w fun r w' => r = .string ⟨(keyB f).toArray⟩ ∧ Up w w' := by
  obtain ⟨w0, rfl⟩ : ∃ w0, w0 = w := ⟨_, rfl⟩
  have hS := Sep.start no w0
  refine Calls_start (n := 27) (m := 9) Tryz.func33 rfl rfl rfl ?_
  refine CW.seq (CW.region ?_)
  refine LW.r (REv.boxA (.tmp rfl)) rfl rfl rfl rfl ?_
  rintro _ w1 ⟨B1, rfl, NB1⟩
  have eB1 := NB1.at_
  have zB1 := NB1.size
  replace hS := hS.addB NB1
  change Wx.Sep _ _ _ [_] at hS
  refine LW.p (PEv.assign (.const _)) rfl rfl rfl (LW.nil (KW.then (CW.seq (CW.seq ?_))))
  cases hq1 : validB f with
  | true =>
   have hkn := valid_kind hq1
   refine CW.region ?_
   refine LW.p (PEv.loadA Tryz.isAgg46 Tryz.sizeOf46 rfl (.tmp rfl) ((hS.blk 0 rfl).agg)) rfl rfl rfl ?_
   refine LW.c (enter_call0 (.cons (.tmp rfl) .nil) (Tryz.en51)) rfl rfl rfl rfl (Valid_any f _) ?_
   rintro _ w2 ⟨rfl, uw2⟩
   have zw2 := uw2.size
   replace hS := hS.up uw2
   refine LW.p (PEv.fa (PEv.not (.tmp rfl)) (by rw [hq1]; rfl)) rfl rfl rfl ?_
   refine LW.nil (KW.then ?_)
   refine CW.cond_false (.tmp rfl) ?_
   refine CW.skip (KW.then (CW.seq (CW.region ?_)))
   refine LW.p (PEv.build (cs := #[.pointer none, .slice none 0 0]) Tryz.underlying93 Tryz.zeroValue93 Tryz.places93 .nil rfl) rfl rfl rfl ?_
   refine LW.r (REv.boxA (.tmp rfl)) rfl rfl rfl rfl ?_
   rintro _ w3 ⟨B8, rfl, NB8⟩
   have eB8 := NB8.at_
   have zB8 := NB8.size
   replace hS := hS.addB NB8
   change Wx.Sep _ _ _ [_, _] at hS
   refine LW.p (PEv.assign (.tmp rfl)) rfl rfl rfl (LW.nil (KW.then (CW.seq ?_)))
   replace hS := Sep.wri (Bs := [_]) (e := 5) hS
   change Wx.Sep _ _ _ [_, _] at hS
   have hA0 := hS.get 1 rfl
   refine CW.region (LW.p (PEv.move (.tmp rfl)) rfl rfl rfl ?_)
   refine LW.p (PEv.fieldAddr (off := 0) Tryz.underlying46 rfl rfl Tryz.sizeOf3 rfl (.tmp rfl)) rfl rfl rfl ?_
   refine LW.p (PEv.load Tryz.isAgg3 (.tmp rfl) ((hS.blk 0 rfl).celln rfl)) rfl rfl rfl ?_
   refine LW.r (REv.buildSlice (xs := [f.Kind]) (enc := eInt) (mk := vi) Tryz.underlying32 Tryz.sizeOf3 Tryz.zeroValue3 rfl (by decide) (fun _ => rfl) (fun _ => rfl) (.cons (.tmp rfl) .nil) rfl) rfl rfl rfl rfl ?_
   rintro _ w4 ⟨B12, cB12, rfl, NB12, yB12, xB12⟩
   have eB12 := NB12.at_
   have zB12 := NB12.size
   replace hS := hS.up NB12.up
   have hE12 := xB12
   refine LW.c (enter_call0 (.cons (.tmp rfl) (.cons (.tmp rfl) .nil)) (Tryz.en52)) rfl rfl rfl rfl (put_b B8 _ _ [f.Kind] ⟨B8, false, .slice none 0 0⟩ _ _ (hS.get 1 rfl) rfl hE12 (fun B o e => by cases e; intro hf; have := Asr.lt _ _ hA0 _ hf; omega) (by simp)) ?_
   rintro _ w5 ⟨rfl, D1, hb1, uw5⟩
   have zw5 := uw5.fr.size
   replace hS := hS.stp 1 rfl uw5
   change Wx.Sep _ _ _ [_, _] at hS
   refine LW.nil (KW.then (CW.seq ?_))
   refine CW.free 8 [.eq (.pointer (some ⟨B8, 0, none⟩)), .eq (.agg f.cells), .pred ShM, .eq (.pointer (some ⟨B1, 0, none⟩)), .eq (vi f.Kind), .pred (shOf f), .pred (fun v w => SlT 126 w v 3 Fld.cells (keyFOf f.Kind)), .pred (fun v w => ∃ Ba Bb ad cp, v = .func (.func 94) #[] #[.pointer (some ⟨Ba, 0, none⟩), .pointer (some ⟨Bb, 0, none⟩)] ∧ Blk w Ba #[.slice ad (keyFOf f.Kind).length cp] 97 ∧ Blk w Bb f.cells 46 ∧ SlT 126 w (.slice ad (keyFOf f.Kind).length cp) 3 Fld.cells (keyFOf f.Kind))] [14, 21] (by kernel_rfl) rfl (by kernel_rfl) (by kernel_rfl) (by kernel_rfl) (by kernel_rfl) (by kernel_rfl) (by kernel_rfl) (by kernel_rfl) ⟨PhU.eq _, PhU.eq _, PhU.pred fun _ _ _ h u => ShM.keepT h u.keepT, PhU.eq _, PhU.eq _, PhU.pred fun _ _ _ h u => ShV.keepT h u.keepT, PhU.pred fun _ _ _ h u => SlT.cel h u.cel, PhU.pred fun _ _ _ h u => let ⟨Ba, Bb, ad, cp, e, h1, h2, h3⟩ := h; ⟨Ba, Bb, ad, cp, e, h1.up u, h2.up u, SlT.cel h3 u.cel⟩, trivial⟩ ?_ ?_
   ·intro W hU0
    have hU := (Up.drew w5).trans hU0
    refine allL.cons ⟨rfl, TU.p (PEv.move (.tmp rfl)) rfl⟩ ?_
    refine allL.cons ⟨rfl, TU.p (PEv.loadA Tryz.isAgg46 Tryz.sizeOf46 rfl (.tmp rfl) (((hS.blk 0 rfl).up hU).agg)) rfl⟩ ?_
    refine allL.cons ⟨rfl, TU.c (enter_call0 .nil (Tryz.en55)) (shapes_any _) (fun v W1 h => let ⟨b, e, m, u⟩ := h; ⟨u, b, e, m⟩)⟩ ?_
    refine allL.cons ⟨rfl, TU.p (PEv.fieldAddr (off := 0) Tryz.underlying46 rfl rfl Tryz.sizeOf3 rfl (.tmp rfl)) rfl⟩ ?_
    refine allL.cons ⟨rfl, TU.p (PEv.load Tryz.isAgg3 (.tmp rfl) (((hS.blk 0 rfl).up hU).celln rfl)) rfl⟩ ?_
    refine allL.cons ⟨rfl, TU.open (d := 16) rfl (by rintro _ ⟨b, rfl, kv, hI, hV, hK⟩; obtain ⟨⟨k0, sv⟩, hkv, e0⟩ := List.mem_map.1 ((hK f.Kind).2 hkn); cases e0; exact TU.p (PEv.lookupYes (ok := false) Tryz.underlying100 Tryz.underlying3 (.tmp rfl) (.tmp rfl) hI hkv) (hV _ _ hkv))⟩ ?_
    refine allL.cons ⟨rfl, TU.open (d := 19) rfl (by rintro _ ⟨v1, v2, rfl, h1, h2⟩; exact TU.p (PEv.field1 (off := 1) Tryz.underlying99 rfl rfl Tryz.isAgg97 (.tmp rfl) rfl) h2)⟩ ?_
    refine allL.cons ⟨rfl, TU.open (d := 20) rfl (by rintro _ ⟨⟨ad, cp, rfl, hE⟩, hT⟩; exact TU.c (enter_call0 (.cons (.tmp rfl) (.cons (.tmp rfl) .nil)) (Tryz.en54)) (numbers_any f ad _ cp _) (fun v W1 h => let ⟨⟨Ba, Bb, e, h1, h2⟩, u⟩ := h; ⟨u, Ba, Bb, ad, cp, e, h1, h2, SlT.cel ⟨⟨ad, cp, rfl, hE⟩, hT⟩ u.cel⟩))⟩ ?_
    exact allL.nil
   ·intro w6 g hU0 hg
    have hU := (Up.drew w5).trans hU0
    have zw6 := hU.size
    replace hS := hS.up hU
    have e14 : g 14 = .pointer (some ⟨B8, 0, none⟩) := hg 0 _ 14 (by decide) rfl rfl
    obtain ⟨Ba, Bb, ad, cp2, e21, hBa, hBb, ⟨ad1, cp1, e1, hE⟩, hT⟩ := hg 7 _ 21 (by decide) rfl rfl
    cases e1
    change LW _ _ _ _ _ _ _ _ ((14, .eq (g 14)) :: (21, .eq (g 21)) :: _) _
    rw [e14, e21]
    refine LW.c (enter_call0 (.cons (.tmp rfl) (.cons (.tmp rfl) .nil)) (Tryz.en53)) rfl rfl rfl rfl (putNums_b B8 Ba Bb ad cp2 _ f D1 _ _ (hS.get 1 rfl) hb1 hBa hBb hE (fun B o e => by obtain ⟨cs, x, hc⟩ := hT B o _ _ (by rw [e]); exact ⟨lt_of_block hc, aWri_ne (hS.get 1 rfl) hc rfl rfl⟩) (keyLen1 f) (keyF_ok f.Kind)) ?_
    rintro _ w7 ⟨rfl, D2, hb2, uw7⟩
    have zw7 := uw7.fr.size
    replace hS := hS.stp 1 rfl uw7
    change Wx.Sep _ _ _ [_, _] at hS
    rw [List.nil_append, ← encIs_app] at hS
    have hKL : [f.Kind] ++ valsOf (keyFOf f.Kind) f = keyL f := rfl
    rw [hKL] at hS
    refine LW.nil (KW.then (CW.seq (CW.region (LW.p (PEv.move (.tmp rfl)) rfl rfl rfl ?_))))
    refine LW.p (PEv.nilCheck (.tmp rfl)) rfl rfl rfl ?_
    refine LW.p (PEv.fieldAddr (off := 0) Tryz.underlying93 rfl rfl Tryz.sizeOf91 rfl (.tmp rfl)) rfl rfl rfl ?_
    refine LW.c (enter_call0 (.cons (.tmp rfl) .nil) (Tryz.en56)) rfl rfl rfl rfl (String_b B8 D2 _ _ (hS.get 1 rfl) hb2 (keyB_ne hq1) (keyLen2 f)) ?_
    rintro _ w8 ⟨rfl, hF⟩
    refine LW.p (PEv.assign (.tmp rfl)) rfl rfl rfl (LW.nil (KW.then (CW.ret ?_)))
    refine KW.ret1 rfl rfl ⟨_, rfl, ?_⟩
    rw [keyB, if_pos hq1]
    exact ⟨rfl, (hS.fr.next hF (hS.foot 1 rfl)).toUp (fun _ h => h)⟩
  | false =>
   refine CW.region ?_
   refine LW.p (PEv.loadA Tryz.isAgg46 Tryz.sizeOf46 rfl (.tmp rfl) ((hS.blk 0 rfl).agg)) rfl rfl rfl ?_
   refine LW.c (enter_call0 (.cons (.tmp rfl) .nil) (Tryz.en51)) rfl rfl rfl rfl (Valid_any f _) ?_
   rintro _ w9 ⟨rfl, uw9⟩
   have zw9 := uw9.size
   replace hS := hS.up uw9
   refine LW.p (PEv.tr (PEv.not (.tmp rfl)) (by rw [hq1]; rfl)) rfl rfl rfl ?_
   refine LW.nil (KW.then ?_)
   refine CW.cond_true (.tmp rfl) ?_
   refine CW.seq (CW.region (LW.p (PEv.assign (.const _)) rfl rfl rfl (LW.nil (KW.then (CW.ret (KW.then_ret ?_))))))
   refine KW.ret1 rfl rfl ⟨_, rfl, ?_⟩
   rw [keyB, if_neg (by rw [hq1]; exact Bool.false_ne_true)]
   exact ⟨rfl, hS.upd⟩
end Go.Proofs.YthfjagphcekcbaaGreat

-- Ba10
namespace Go.Wx

theorem ba_loop (b : ByteArray) : ∀ (k i : Nat) (r : List UInt8), b.size - i = k → ByteArray.toList.loop b i r = r.reverse ++ b.data.toList.drop i
  | 0, i, r, h => by
    unfold ByteArray.toList.loop
    rw [if_neg (by omega), List.drop_eq_nil_of_le (by rw [Array.length_toList]; have : b.data.size = b.size := rfl; omega), List.append_nil]
  | k + 1, i, r, h => by
    unfold ByteArray.toList.loop
    have hi : i < b.size := by omega
    rw [if_pos hi, ba_loop b k (i + 1) _ (by omega)]
    have hi' : i < b.data.toList.length := by rw [Array.length_toList]; exact hi
    rw [List.drop_eq_getElem_cons hi']
    have : b.get! i = b.data.toList[i] := by
      rw [Array.getElem_toList]
      show b.data[i]! = _
      exact getElem!_pos b.data i hi
    rw [this]; simp
theorem ba_toList (b : ByteArray) : b.toList = b.data.toList := by
  unfold ByteArray.toList
  rw [ba_loop b b.size 0 [] rfl]; simp
/-- elements in cells of one type -/
structure ElT {α : Type} (w : World) (ad : Option Addr) (T : TypeId) (k : Nat) (enc : α → Array Value) (xs : List α) : Prop where
  els : Els w ad k enc xs
  ty : ∀ B o, ad = some ⟨B, o, none⟩ → ∃ cs x, w.heap[B]? = some (Obj.cells cs T x)
theorem ElT.up {α : Type} {w w' : World} {ad : Option Addr} {T : TypeId} {k : Nat} {enc : α → Array Value} {xs : List α} (h : ElT w ad T k enc xs) (u : Up w w') : ElT w' ad T k enc xs := ⟨Els.up h.els u, fun B o e => let ⟨cs, x, hc⟩ := h.ty B o e; ⟨cs, x, (u.block (lt_of_block hc)).trans hc⟩⟩
theorem ElT.fr {α : Type} {S : Nat → Prop} {w w' : World} {ad : Option Addr} {T : TypeId} {k : Nat} {enc : α → Array Value} {xs : List α} (h : ElT w ad T k enc xs) (f : Fr S w w') (hn : ∀ B cs x, w.heap[B]? = some (Obj.cells cs T x) → ¬ S B) : ElT w' ad T k enc xs :=
  ⟨h.els.fr f (fun B o e => let ⟨cs, x, hc⟩ := h.ty B o e; hn B cs x hc), fun B o e => let ⟨cs, x, hc⟩ := h.ty B o e; ⟨cs, x, (f.block _ (lt_of_block hc) (hn B cs x hc)).trans hc⟩⟩
theorem headLen (f : Fact) : ([] ++ encIs [f.Kind, f.Version, f.Day, flagI f.Gone]).length + 10 * (fieldsOf f.Kind).length ≤ 10000 := by
  have h1 := fields_len f.Kind
  have h2 := encIs_len [f.Kind, f.Version, f.Day, flagI f.Gone]
  rw [List.nil_append]
  simp only [List.length_cons, List.length_nil] at h2
  omega
theorem encLen (f : Fact) : (encIs (encL f)).length ≤ 200 := by
  have h1 := fields_len f.Kind
  have h2 := encIs_len (encL f)
  have h3 : (encL f).length = 4 + (fieldsOf f.Kind).length := by simp [encL, valsOf]; omega
  omega
theorem encBLen {f : Fact} (h : validB f = true) : (encB f).length ≤ 9000 := by
  have h1 := encLen f
  have h2 := valid_text h
  unfold encB
  rw [List.length_append]
  split
  · have := encT_len f.Text.data.toList
    rw [ba_size] at this
    omega
  · simp; omega
theorem encB_text {f : Fact} (h : textOf f.Kind = true) : encIs (encL f) ++ encT f.Text.data.toList = encB f := by rw [encB, if_pos h]
theorem encB_no {f : Fact} (h : textOf f.Kind = false) : encIs (encL f) = encB f := by rw [encB, if_neg (by rw [h]; exact Bool.false_ne_true), List.append_nil]
def codeE (f : Fact) : Int := if validB f then 0 else 150

end Go.Wx
namespace Go.Proofs.YthfjagphcekcbaaGreat
open Go.Wx Go.RowKit
theorem Encode_any (f : Fact) (w : World) : Ret Tryz.prog 57 #[.agg f.cells] w fun r w' => r = .tuple #[.string ⟨(codeB f).toArray⟩, vi (codeE f)] ∧ Up w w' := by
  obtain ⟨w0, rfl⟩ : ∃ w0, w0 = w := ⟨_, rfl⟩
  have hS := Sep.start no w0
  refine Calls_start (n := 52) (m := 9) Tryz.func57 rfl rfl rfl ?_
  refine CW.seq (CW.region ?_)
  refine LW.r (REv.boxA (.tmp rfl)) rfl rfl rfl rfl ?_
  rintro _ w1 ⟨B1, rfl, NB1⟩
  have eB1 := NB1.at_
  have zB1 := NB1.size
  replace hS := hS.addB NB1
  change Wx.Sep _ _ _ [_] at hS
  refine LW.p (PEv.assign (.const _)) rfl rfl rfl (LW.p (PEv.assign (.const _)) rfl rfl rfl (LW.nil (KW.then (CW.seq (CW.seq ?_)))))
  cases hq1 : validB f with
  | true =>
   have hkn := valid_kind hq1
   refine CW.region ?_
   refine LW.p (PEv.loadA Tryz.isAgg46 Tryz.sizeOf46 rfl (.tmp rfl) ((hS.blk 0 rfl).agg)) rfl rfl rfl ?_
   refine LW.c (enter_call0 (.cons (.tmp rfl) .nil) (Tryz.en51)) rfl rfl rfl rfl (Valid_any f _) ?_
   rintro _ w2 ⟨rfl, uw2⟩
   have zw2 := uw2.size
   replace hS := hS.up uw2
   refine LW.p (PEv.fa (PEv.not (.tmp rfl)) (by rw [hq1]; rfl)) rfl rfl rfl ?_
   refine LW.nil (KW.then ?_)
   refine CW.cond_false (.tmp rfl) ?_
   refine CW.skip (KW.then (CW.seq ?_))
   have hB1T := hS.blk 0 rfl
   have hU0 := hS.upd
   refine CW.box 6 4 5 3 4 14 #[.slice none 0 0, .slice none 0 0, .nilFunc, .bool false] [.pred ShM, .eq (.pointer (some ⟨B1, 0, none⟩)), .eq (vi f.Kind), .pred (shOf f), .pred fun v _ => ∃ B, v = .pointer (some ⟨B, 0, none⟩), .eq undef] [] Tryz.zeroValue99 Tryz.sizeOf99 (by kernel_rfl) rfl (by kernel_rfl) (by kernel_rfl) (by kernel_rfl) (by kernel_rfl) (by kernel_rfl) (by kernel_rfl) (by kernel_rfl) rfl rfl ⟨_, _, _, rfl⟩ _ rfl ⟨_, _, _, rfl⟩ ⟨PhT.pred fun _ _ _ h u => ShM.keepT h u, PhT.eq _ _, PhT.eq _ _, PhT.pred fun _ _ _ h u => ShV.keepT h u, PhT.pred fun _ _ _ h _ => h, PhT.eq _ _, trivial⟩ rfl (fun v W h => shOf.agg h) (fun B W => ⟨B, rfl⟩) ?_ ?_
   ·intro W hK0
    have hK := (Up.drew w2).keepT.trans hK0
    have hB1W := Blk.keepT hB1T (T := 99) rfl hK
    refine allL.cons (.inr ⟨rfl, TU.c (enter_call0 .nil (Tryz.en55)) (shapes_any _) (fun v W1 h => let ⟨b, e, m, u⟩ := h; ⟨u, b, e, m⟩)⟩) ?_
    refine allL.cons (.inr ⟨rfl, TU.p (PEv.fieldAddr (off := 0) Tryz.underlying46 rfl rfl Tryz.sizeOf3 rfl (.tmp rfl)) rfl⟩) ?_
    refine allL.cons (.inr ⟨rfl, TU.p (PEv.load Tryz.isAgg3 (.tmp rfl) (hB1W.celln rfl)) rfl⟩) ?_
    refine allL.cons (.inr ⟨rfl, TU.open (d := 11) rfl (by rintro _ ⟨b, rfl, kv, hI, hV, hK⟩; obtain ⟨⟨k0, sv⟩, hkv, e0⟩ := List.mem_map.1 ((hK f.Kind).2 hkn); cases e0; exact TU.p (PEv.lookupYes (ok := false) Tryz.underlying100 Tryz.underlying3 (.tmp rfl) (.tmp rfl) hI hkv) (hV _ _ hkv))⟩) ?_
    refine allL.cons (.inl (.inl rfl)) ?_
    refine allL.cons (.inl (.inr rfl)) ?_
    exact allL.nil
   ·intro wT B4 g hU hBn hB4 hg
    have hUT := (Up.drew _).trans hU
    obtain ⟨v1, v2, e14, hs1, hs2⟩ := hg 3 _ 14 (by decide) rfl rfl
    rw [e14] at hB4
    obtain ⟨⟨ad, cp, rfl, hE1⟩, hT0⟩ := hs1
    obtain ⟨⟨ad2, cp2, rfl, hE2⟩, _⟩ := hs2
    replace hB4 : Blk wT B4 #[.slice ad (fieldsOf f.Kind).length cp, .slice ad2 (keyFOf f.Kind).length cp2, .func (.func (restFn (restOf f.Kind))) #[] #[], .bool (textOf f.Kind)] 99 := hB4
    have hB1X := hB1T.up hUT
    replace hU0 := hU0.trans hUT
    have hB14 : B1 ≠ B4 := fun e => by have := hB1T.lt; have := (Up.drew w2).size; omega
    have zB4 : w0.heap.size ≤ B4 := by have := hS.size; have := (Up.drew w2).size; omega
    have hE0 : ElT wT ad 126 3 Fld.cells (fieldsOf f.Kind) := ⟨hE1, fun B o e => hT0 B o _ _ (by rw [e])⟩
    replace hS : Wx.Sep no w0 wT [aBlk B1 f.cells 46, aBlk B4 #[.slice ad (fieldsOf f.Kind).length cp, .slice ad2 (keyFOf f.Kind).length cp2, .func (.func (restFn (restOf f.Kind))) #[] #[], .bool (textOf f.Kind)] 99] := ⟨hU0.fr _, fun A hA => by simp only [List.mem_cons, List.mem_nil_iff, or_false] at hA; rcases hA with rfl | rfl; exact ⟨hB1X, hS.foot 0 rfl⟩; exact ⟨hB4, fun i (e : i = B4) => .inr (by omega)⟩, List.Pairwise.cons (fun A hA i (e1 : i = B1) => by simp only [List.mem_singleton] at hA; subst hA; exact fun (e2 : i = B4) => hB14 (e1.symm.trans e2)) (List.pairwise_singleton _ _)⟩
    refine LW.nil (KW.then (CW.seq (CW.region ?_)))
    refine LW.p (PEv.build (cs := #[.pointer none, .slice none 0 0]) Tryz.underlying93 Tryz.zeroValue93 Tryz.places93 .nil rfl) rfl rfl rfl ?_
    refine LW.r (REv.boxA (.tmp rfl)) rfl rfl rfl rfl ?_
    rintro _ w3 ⟨B16, rfl, NB16⟩
    have eB16 := NB16.at_
    have zB16 := NB16.size
    replace hE0 := hE0.up NB16.up
    replace hS := hS.addB NB16
    change Wx.Sep _ _ _ [_, _, _] at hS
    refine LW.p (PEv.assign (.tmp rfl)) rfl rfl rfl (LW.nil (KW.then (CW.seq ?_)))
    replace hS := Sep.wri (Bs := [_, _]) (e := 5) hS
    change Wx.Sep _ _ _ [_, _, _] at hS
    refine CW.free 11 [.eq (.pointer (some ⟨B16, 0, none⟩)), .eq (.pointer (some ⟨B1, 0, none⟩)), .eq (vi f.Kind), .eq (.pointer (some ⟨B1, 2, none⟩)), .eq (vi f.Version), .eq (.pointer (some ⟨B1, 3, none⟩)), .eq (vi f.Day), .eq (.pointer (some ⟨B1, 4, none⟩)), .eq (.bool f.Gone), .eq (vi (flagI f.Gone)), .pred (fun v w => SlT 3 w v 1 eInt [f.Kind, f.Version, f.Day, flagI f.Gone])] [17, 27] (by kernel_rfl) rfl (by kernel_rfl) (by kernel_rfl) (by kernel_rfl) (by kernel_rfl) (by kernel_rfl) (by kernel_rfl) (by kernel_rfl) ⟨PhU.eq _, PhU.eq _, PhU.eq _, PhU.eq _, PhU.eq _, PhU.eq _, PhU.eq _, PhU.eq _, PhU.eq _, PhU.eq _, PhU.pred fun _ _ _ h u => SlT.cel h u.cel, trivial⟩ ?_ ?_
    ·intro W hU0
     have hU := (Up.drew w3).trans hU0
     refine allL.cons ⟨rfl, TU.p (PEv.move (.tmp rfl)) rfl⟩ ?_
     refine allL.cons ⟨rfl, TU.p (PEv.fieldAddr (off := 0) Tryz.underlying46 rfl rfl Tryz.sizeOf3 rfl (.tmp rfl)) rfl⟩ ?_
     refine allL.cons ⟨rfl, TU.p (PEv.load Tryz.isAgg3 (.tmp rfl) (((hS.blk 0 rfl).up hU).celln rfl)) rfl⟩ ?_
     refine allL.cons ⟨rfl, TU.p (PEv.fieldAddr (off := 2) Tryz.underlying46 rfl rfl Tryz.sizeOf3 rfl (.tmp rfl)) rfl⟩ ?_
     refine allL.cons ⟨rfl, TU.p (PEv.load Tryz.isAgg3 (.tmp rfl) (((hS.blk 0 rfl).up hU).celln rfl)) rfl⟩ ?_
     refine allL.cons ⟨rfl, TU.p (PEv.fieldAddr (off := 3) Tryz.underlying46 rfl rfl Tryz.sizeOf3 rfl (.tmp rfl)) rfl⟩ ?_
     refine allL.cons ⟨rfl, TU.p (PEv.load Tryz.isAgg3 (.tmp rfl) (((hS.blk 0 rfl).up hU).celln rfl)) rfl⟩ ?_
     refine allL.cons ⟨rfl, TU.p (PEv.fieldAddr (off := 4) Tryz.underlying46 rfl rfl Tryz.sizeOf4 rfl (.tmp rfl)) rfl⟩ ?_
     refine allL.cons ⟨rfl, TU.p (PEv.load Tryz.isAgg4 (.tmp rfl) (((hS.blk 0 rfl).up hU).celln rfl)) rfl⟩ ?_
     refine allL.cons ⟨rfl, TU.c (enter_call0 (.cons (.tmp rfl) .nil) (Tryz.en115)) (flag_any f.Gone _) (by rintro _ W1 ⟨rfl, u⟩; exact ⟨u, rfl⟩)⟩ ?_
     refine allL.cons ⟨rfl, TU.r (REv.buildSlice (xs := [f.Kind, f.Version, f.Day, flagI f.Gone]) (enc := eInt) (mk := vi) Tryz.underlying32 Tryz.sizeOf3 Tryz.zeroValue3 rfl (by decide) (fun _ => rfl) (fun _ => rfl) (.cons (.tmp rfl) (.cons (.tmp rfl) (.cons (.tmp rfl) (.cons (.tmp rfl) .nil)))) rfl) (by rintro _ W1 ⟨B, c, rfl, N, y, x⟩; exact ⟨N.up, SlT.lit ⟨B, c, rfl, N, y, x⟩⟩)⟩ ?_
     exact allL.nil
    ·intro w4 g hU0 hg
     have hU := (Up.drew w3).trans hU0
     have zw4 := hU.size
     replace hS := hS.up hU
     replace hE0 := hE0.up hU
     have e17 : g 17 = .pointer (some ⟨B16, 0, none⟩) := hg 0 _ 17 (by decide) rfl rfl
     obtain ⟨⟨ad3, cp3, e27, hE27⟩, hT27⟩ := hg 10 _ 27 (by decide) rfl rfl
     change LW _ _ _ _ _ _ _ _ ((17, .eq (g 17)) :: (27, .eq (g 27)) :: _) _
     rw [e17, e27]
     have hA0 := hS.get 2 rfl
     refine LW.c (enter_call0 (.cons (.tmp rfl) (.cons (.tmp rfl) .nil)) (Tryz.en52)) rfl rfl rfl rfl (put_b B16 ad3 cp3 [f.Kind, f.Version, f.Day, flagI f.Gone] ⟨B16, false, .slice none 0 0⟩ _ _ (hS.get 2 rfl) rfl hE27 (fun B o e => by obtain ⟨cs, x, hc⟩ := hT27 B o _ _ (by rw [e27, e]); exact aWri_ne hA0 hc rfl rfl) (by simp)) ?_
     rintro _ w5 ⟨rfl, D1, hb1, uw5⟩
     have zw5 := uw5.fr.size
     replace hS := hS.stp 2 rfl uw5
     change Wx.Sep _ _ _ [_, _, _] at hS
     replace hE0 := hE0.fr uw5.fr (fun B cs x hc => aWri_ne hA0 hc rfl rfl)
     refine LW.nil (KW.then (CW.seq (CW.region (LW.p (PEv.move (.tmp rfl)) rfl rfl rfl ?_))))
     refine LW.p (PEv.loadA Tryz.isAgg46 Tryz.sizeOf46 rfl (.tmp rfl) ((hS.blk 0 rfl).agg)) rfl rfl rfl ?_
     refine LW.p (PEv.fieldAddr (off := 0) Tryz.underlying99 rfl rfl Tryz.sizeOf97 rfl (.tmp rfl)) rfl rfl rfl ?_
     refine LW.p (PEv.load Tryz.isAgg97 (.tmp rfl) ((hS.blk 1 rfl).celln rfl)) rfl rfl rfl ?_
     refine LW.c (enter_call0 (.cons (.tmp rfl) (.cons (.tmp rfl) .nil)) (Tryz.en54)) rfl rfl rfl rfl (numbers_any f ad _ cp _) ?_
     rintro _ w6 ⟨⟨Ba, Bb, rfl, hBa, hBb⟩, uw6⟩
     have zw6 := uw6.size
     replace hS := hS.up uw6
     replace hE0 := hE0.up uw6
     refine LW.c (enter_call0 (.cons (.tmp rfl) (.cons (.tmp rfl) .nil)) (Tryz.en53)) rfl rfl rfl rfl (putNums_b B16 Ba Bb ad cp _ f D1 _ _ (hS.get 2 rfl) hb1 hBa hBb hE0.els (fun B o e => by obtain ⟨cs, x, hc⟩ := hE0.ty B o e; exact ⟨lt_of_block hc, aWri_ne (hS.get 2 rfl) hc rfl rfl⟩) (headLen f) (fields_ok f.Kind)) ?_
     rintro _ w7 ⟨rfl, D2, hb2, uw7⟩
     have zw7 := uw7.fr.size
     replace hS := hS.stp 2 rfl uw7
     change Wx.Sep _ _ _ [_, _, _] at hS
     rw [List.nil_append, ← encIs_app] at hS
     have hKL : [f.Kind, f.Version, f.Day, flagI f.Gone] ++ valsOf (fieldsOf f.Kind) f = encL f := rfl
     rw [hKL] at hS
     refine LW.nil (KW.then (CW.seq (CW.seq (CW.region ?_))))
     refine LW.p (PEv.fieldAddr (off := 3) Tryz.underlying99 rfl rfl Tryz.sizeOf4 rfl (.tmp rfl)) rfl rfl rfl ?_
     refine LW.p (PEv.load Tryz.isAgg4 (.tmp rfl) ((hS.blk 1 rfl).celln rfl)) rfl rfl rfl ?_
     refine LW.nil (KW.then ?_)
     refine CW.cond (.tmp rfl) (fun h36 => ?_) (fun h36 => ?_)
     ·first | replace h36 := of_decide_eq_true h36 | replace h36 := of_decide_eq_false h36 | skip
      refine CW.seq (CW.region ?_)
      refine LW.p (PEv.fieldAddr (off := 18) Tryz.underlying46 rfl rfl Tryz.sizeOf9 rfl (.tmp rfl)) rfl rfl rfl ?_
      refine LW.p (PEv.load Tryz.isAgg9 (.tmp rfl) ((hS.blk 0 rfl).celln rfl)) rfl rfl rfl ?_
      refine LW.c (enter_call0 (.cons (.tmp rfl) .nil) (Tryz.en116)) rfl rfl rfl rfl (PutString_any f.Text _ (by have := valid_text hq1; omega)) ?_
      rintro _ w8 ⟨rfl, uw8⟩
      have zw8 := uw8.size
      replace hS := hS.up uw8
      refine LW.p (PEv.move (.tmp rfl)) rfl rfl rfl (LW.p (PEv.extract (.tmp rfl) rfl) rfl rfl rfl (LW.p (PEv.extract (.tmp rfl) rfl) rfl rfl rfl (LW.p (PEv.assign (.tmp rfl)) rfl rfl rfl (LW.p (PEv.assign (.tmp rfl)) rfl rfl rfl (LW.nil (KW.then (CW.region (LW.p (PEv.move (.tmp rfl)) rfl rfl rfl ?_))))))))
      refine LW.p (PEv.nilCheck (.tmp rfl)) rfl rfl rfl ?_
      refine LW.p (PEv.fieldAddr (off := 0) Tryz.underlying93 rfl rfl Tryz.sizeOf91 rfl (.tmp rfl)) rfl rfl rfl ?_
      refine LW.p (PEv.move (.tmp rfl)) rfl rfl rfl ?_
      refine LW.c (enter_call0 (.cons (.tmp rfl) (.cons (.tmp rfl) .nil)) (Tryz.en93)) rfl rfl rfl rfl (WriteString_b B16 _ D2 _ _ (hS.get 2 rfl) hb2 (by rw [enc_size]; have := encT_len f.Text.data.toList; rw [ba_size] at this; have := valid_text hq1; have := encLen f; omega)) ?_
      rintro _ w9 ⟨rfl, bf, uw9⟩
      have zw9 := uw9.fr.size
      replace hS := hS.stp 2 rfl uw9
      change Wx.Sep _ _ _ [_, _, _] at hS
      refine LW.nil (KW.then (CW.seq ?_))
      obtain ⟨D3, hb3, hS3⟩ : ∃ D3 : Wri, D3.bd = B16 ∧ Wx.Sep no w0 w9 [aBlk B1 f.cells 46, aBlk B4 #[.slice ad (fieldsOf f.Kind).length cp, .slice ad2 (keyFOf f.Kind).length cp2, .func (.func (restFn (restOf f.Kind))) #[] #[], .bool (textOf f.Kind)] 99, aWri 93 5 D3 (encB f)] := by first | exact ⟨⟨B16, true, bf⟩, rfl, by rw [← encB_text (decide_eq_true h36)]; exact hS⟩ | exact ⟨D2, hb2, by rw [← encB_no (decide_eq_false h36)]; exact hS⟩
      replace hS := hS3
      refine CW.region (LW.p (PEv.move (.tmp rfl)) rfl rfl rfl ?_)
      refine LW.p (PEv.nilCheck (.tmp rfl)) rfl rfl rfl ?_
      refine LW.p (PEv.fieldAddr (off := 0) Tryz.underlying93 rfl rfl Tryz.sizeOf91 rfl (.tmp rfl)) rfl rfl rfl ?_
      refine LW.c (enter_call0 (.cons (.tmp rfl) .nil) (Tryz.en56)) rfl rfl rfl rfl (String_b B16 D3 _ _ (hS.get 2 rfl) hb3 (encB_ne hq1) (by have := encBLen hq1; omega)) ?_
      rintro _ w10 ⟨rfl, hF⟩
      refine LW.p (PEv.assign (.tmp rfl)) rfl rfl rfl (LW.p (PEv.assign (.const _)) rfl rfl rfl (LW.nil (KW.then (CW.ret ?_))))
      refine KW.ret2 rfl rfl rfl ⟨_, rfl, ?_⟩
      rw [codeB, codeE, if_pos hq1, if_pos hq1]
      exact ⟨rfl, (hS.fr.next hF (hS.foot 2 rfl)).toUp (fun _ h => h)⟩
     ·first | replace h36 := of_decide_eq_true h36 | replace h36 := of_decide_eq_false h36 | skip
      refine CW.skip (KW.then (CW.seq ?_))
      obtain ⟨D3, hb3, hS3⟩ : ∃ D3 : Wri, D3.bd = B16 ∧ Wx.Sep no w0 w7 [aBlk B1 f.cells 46, aBlk B4 #[.slice ad (fieldsOf f.Kind).length cp, .slice ad2 (keyFOf f.Kind).length cp2, .func (.func (restFn (restOf f.Kind))) #[] #[], .bool (textOf f.Kind)] 99, aWri 93 5 D3 (encB f)] := by first | exact ⟨⟨B16, true, bf⟩, rfl, by rw [← encB_text (decide_eq_true h36)]; exact hS⟩ | exact ⟨D2, hb2, by rw [← encB_no (decide_eq_false h36)]; exact hS⟩
      replace hS := hS3
      refine CW.region (LW.p (PEv.move (.tmp rfl)) rfl rfl rfl ?_)
      refine LW.p (PEv.nilCheck (.tmp rfl)) rfl rfl rfl ?_
      refine LW.p (PEv.fieldAddr (off := 0) Tryz.underlying93 rfl rfl Tryz.sizeOf91 rfl (.tmp rfl)) rfl rfl rfl ?_
      refine LW.c (enter_call0 (.cons (.tmp rfl) .nil) (Tryz.en56)) rfl rfl rfl rfl (String_b B16 D3 _ _ (hS.get 2 rfl) hb3 (encB_ne hq1) (by have := encBLen hq1; omega)) ?_
      rintro _ w11 ⟨rfl, hF⟩
      refine LW.p (PEv.assign (.tmp rfl)) rfl rfl rfl (LW.p (PEv.assign (.const _)) rfl rfl rfl (LW.nil (KW.then (CW.ret ?_))))
      refine KW.ret2 rfl rfl rfl ⟨_, rfl, ?_⟩
      rw [codeB, codeE, if_pos hq1, if_pos hq1]
      exact ⟨rfl, (hS.fr.next hF (hS.foot 2 rfl)).toUp (fun _ h => h)⟩
  | false =>
   refine CW.region ?_
   refine LW.p (PEv.loadA Tryz.isAgg46 Tryz.sizeOf46 rfl (.tmp rfl) ((hS.blk 0 rfl).agg)) rfl rfl rfl ?_
   refine LW.c (enter_call0 (.cons (.tmp rfl) .nil) (Tryz.en51)) rfl rfl rfl rfl (Valid_any f _) ?_
   rintro _ w12 ⟨rfl, uw12⟩
   have zw12 := uw12.size
   replace hS := hS.up uw12
   refine LW.p (PEv.tr (PEv.not (.tmp rfl)) (by rw [hq1]; rfl)) rfl rfl rfl ?_
   refine LW.nil (KW.then ?_)
   refine CW.cond_true (.tmp rfl) ?_
   refine CW.seq (CW.region (LW.p (PEv.assign (.const _)) rfl rfl rfl (LW.p (PEv.assign (.const _)) rfl rfl rfl (LW.nil (KW.then (CW.ret (KW.then_ret ?_)))))))
   refine KW.ret2 rfl rfl rfl ⟨_, rfl, ?_⟩
   rw [codeB, codeE, if_neg (by rw [hq1]; exact Bool.false_ne_true), if_neg (by rw [hq1]; exact Bool.false_ne_true)]
   exact ⟨rfl, hS.upd⟩
end Go.Proofs.YthfjagphcekcbaaGreat

-- Ba11
namespace Go.Wx

theorem key_beq (a b : Fact) : ((⟨(keyB a).toArray⟩ : ByteArray).toList == (⟨(keyB b).toArray⟩ : ByteArray).toList) = (keyB a == keyB b) := by rw [ba_toList, ba_toList]
theorem prev_inv {a b : Fact} (h : (validB a && validB b) = false) : false = prevB a b := by simp [prevB, h]
theorem prev_key {a b : Fact} (h : (!((⟨(keyB a).toArray⟩ : ByteArray).toList == (⟨(keyB b).toArray⟩ : ByteArray).toList)) = true) : false = prevB a b := by
  rw [key_beq] at h
  simp only [Bool.not_eq_true'] at h
  simp [prevB, h]
theorem prev_ver {a b : Fact} (ha : validB a = true) (hb : validB b = true) (h : (!((⟨(keyB a).toArray⟩ : ByteArray).toList == (⟨(keyB b).toArray⟩ : ByteArray).toList)) = false) (hv : (!decide (a.Version = b.Version)) = true) : decide (b.Version < a.Version) = prevB a b := by
  rw [key_beq] at h
  simp only [Bool.not_eq_false'] at h
  have hv : a.Version ≠ b.Version := by simpa using hv
  simp [prevB, ha, hb, h, hv]
theorem prev_cmp {a b : Fact} (ha : validB a = true) (hb : validB b = true) (h : (!((⟨(keyB a).toArray⟩ : ByteArray).toList == (⟨(keyB b).toArray⟩ : ByteArray).toList)) = false) (hv : (!decide (a.Version = b.Version)) = false) : decide (0 < Go.Lib.compareBytes (codeB a) (codeB b)) = prevB a b := by
  rw [key_beq] at h
  simp only [Bool.not_eq_false'] at h
  have hv : a.Version = b.Version := by simpa using hv
  have e : ¬ b.Version < a.Version := by omega
  simp only [prevB, ha, hb, h, hv, codeB, if_true, Bool.true_and, decide_true, Bool.and_true, Int.lt_irrefl, decide_false, Bool.false_or]

end Go.Wx
namespace Go.Proofs.YthfjagphcekcbaaGreat
open Go.Wx Go.RowKit
theorem CompareString_any (a b : ByteArray) (w : World) : Ret Tryz.prog 117 #[.string a, .string b] w fun r w' => r = vi (Go.Lib.compareBytes a.data.toList b.data.toList) ∧ Up w w' := by
  have hW := Up.refl w
  refine Calls_start (n := 8) (m := 9) Tryz.func117 rfl rfl rfl ?_
  refine CW.seq (CW.region (LW.p (PEv.assign (.const _)) rfl rfl rfl (LW.nil (KW.then (CW.seq (CW.region (LW.p (PEv.move (.tmp rfl)) rfl rfl rfl (LW.p (PEv.move (.tmp rfl)) rfl rfl rfl ?_))))))))
  refine LW.p (PEv.ext (.cons (.tmp rfl) (.cons (.tmp rfl) .nil)) (ext_cmpString Tryz.func128 rfl rfl (by kernel_rfl) (by kernel_rfl) _ _)) rfl rfl rfl ?_
  refine LW.p (PEv.assign (.tmp rfl)) rfl rfl rfl (LW.nil (KW.then (CW.ret ?_)))
  refine KW.ret1 rfl rfl ⟨_, rfl, ?_⟩
  exact ⟨rfl, hW⟩

theorem Compare_any (a b : ByteArray) (w : World) : Ret Tryz.prog 58 #[.string a, .string b] w fun r w' => r = vi (Go.Lib.compareBytes a.data.toList b.data.toList) ∧ Up w w' := by
  have hW := Up.refl w
  refine Calls_start (n := 8) (m := 9) Tryz.func58 rfl rfl rfl ?_
  refine CW.seq (CW.region (LW.p (PEv.assign (.const _)) rfl rfl rfl (LW.nil (KW.then (CW.seq (CW.region (LW.p (PEv.move (.tmp rfl)) rfl rfl rfl (LW.p (PEv.move (.tmp rfl)) rfl rfl rfl ?_))))))))
  refine LW.c (enter_call0 (.cons (.tmp rfl) (.cons (.tmp rfl) .nil)) (Tryz.en117)) rfl rfl rfl rfl (CompareString_any a b _) ?_
  rintro _ w1 ⟨rfl, uw1⟩
  have zw1 := uw1.size
  replace hW := hW.up uw1
  refine LW.p (PEv.assign (.tmp rfl)) rfl rfl rfl (LW.nil (KW.then (CW.ret ?_)))
  refine KW.ret1 rfl rfl ⟨_, rfl, ?_⟩
  exact ⟨rfl, hW⟩

theorem Prevails_any (a b : Fact) (w : World) : Ret Tryz.prog 34 #[.agg a.cells, .agg b.cells] w fun r w' => r = .bool (prevB a b) ∧ Up w w' := by
  have hW := Up.refl w
  refine Calls_start (n := 44) (m := 9) Tryz.func34 rfl rfl rfl ?_
  refine CW.seq (CW.region ?_)
  refine LW.r (REv.boxA (.tmp rfl)) rfl rfl rfl rfl ?_
  rintro _ w1 ⟨B2, rfl, NB2⟩
  have eB2 := NB2.at_
  have zB2 := NB2.size
  replace hW := hW.up NB2.up
  have hB2 := NB2.blk
  refine LW.r (REv.boxA (.tmp rfl)) rfl rfl rfl rfl ?_
  rintro _ w2 ⟨B3, rfl, NB3⟩
  have eB3 := NB3.at_
  have zB3 := NB3.size
  replace hW := hW.up NB3.up
  replace hB2 := hB2.up NB3.up
  have hB3 := NB3.blk
  refine LW.p (PEv.assign (.const _)) rfl rfl rfl (LW.nil (KW.then (CW.seq (CW.region ?_))))
  refine LW.p (PEv.loadA Tryz.isAgg46 Tryz.sizeOf46 rfl (.tmp rfl) (hB2.agg)) rfl rfl rfl ?_
  refine LW.c (enter_call0 (.cons (.tmp rfl) .nil) (Tryz.en57)) rfl rfl rfl rfl (Encode_any a _) ?_
  rintro _ w3 ⟨rfl, uw3⟩
  have zw3 := uw3.size
  replace hW := hW.up uw3
  replace hB2 := hB2.up uw3
  replace hB3 := hB3.up uw3
  refine LW.p (PEv.move (.tmp rfl)) rfl rfl rfl (LW.p (PEv.extract (.tmp rfl) rfl) rfl rfl rfl (LW.p (PEv.extract (.tmp rfl) rfl) rfl rfl rfl (LW.p (PEv.assign (.tmp rfl)) rfl rfl rfl (LW.p (PEv.assign (.tmp rfl)) rfl rfl rfl (LW.nil (KW.then (CW.seq (CW.region ?_))))))))
  refine LW.p (PEv.loadA Tryz.isAgg46 Tryz.sizeOf46 rfl (.tmp rfl) (hB3.agg)) rfl rfl rfl ?_
  refine LW.c (enter_call0 (.cons (.tmp rfl) .nil) (Tryz.en57)) rfl rfl rfl rfl (Encode_any b _) ?_
  rintro _ w4 ⟨rfl, uw4⟩
  have zw4 := uw4.size
  replace hW := hW.up uw4
  replace hB2 := hB2.up uw4
  replace hB3 := hB3.up uw4
  refine LW.p (PEv.move (.tmp rfl)) rfl rfl rfl (LW.p (PEv.extract (.tmp rfl) rfl) rfl rfl rfl (LW.p (PEv.extract (.tmp rfl) rfl) rfl rfl rfl (LW.p (PEv.assign (.tmp rfl)) rfl rfl rfl (LW.p (PEv.assign (.tmp rfl)) rfl rfl rfl (LW.nil (KW.then (CW.seq (CW.block (CW.seq (CW.seq ?_))))))))))
  cases hq3 : validB a with
  | false =>
   refine CW.region (LW.p (PEv.move (.tmp rfl)) rfl rfl rfl ?_)
   refine LW.p (PEv.tr (PEv.neq (.tmp rfl) (.const _)) (by rw [codeE, if_neg (by rw [hq3]; exact Bool.false_ne_true)]; rfl)) rfl rfl rfl ?_
   refine LW.p (PEv.assign (.tmp rfl)) rfl rfl rfl (LW.nil (KW.then ?_))
   refine CW.cond_true (.tmp rfl) ?_
   refine CW.skip (KW.then ?_)
   refine CW.cond_true (.tmp rfl) ?_
   refine CW.seq (CW.region (LW.p (PEv.assign (.const _)) rfl rfl rfl (LW.nil (KW.then (CW.ret (KW.block_ret (KW.then_ret ?_)))))))
   refine KW.ret1 rfl rfl ⟨_, rfl, ?_⟩
   refine ⟨congrArg Go.Value.bool ?_, hW⟩
   first | exact prev_inv (by rw [hq3]; rfl) | exact prev_inv (by rw [hq3, hq4]; rfl) | exact prev_key h19 | exact prev_ver hq3 hq4 h19 h29 | exact prev_cmp hq3 hq4 h19 h29
  | true =>
   refine CW.region (LW.p (PEv.move (.tmp rfl)) rfl rfl rfl ?_)
   refine LW.p (PEv.fa (PEv.neq (.tmp rfl) (.const _)) (by rw [codeE, if_pos hq3]; rfl)) rfl rfl rfl ?_
   refine LW.p (PEv.assign (.tmp rfl)) rfl rfl rfl (LW.nil (KW.then ?_))
   refine CW.cond_false (.tmp rfl) ?_
   refine CW.seq ?_
   cases hq4 : validB b with
   | false =>
    refine CW.region (LW.p (PEv.move (.tmp rfl)) rfl rfl rfl ?_)
    refine LW.p (PEv.tr (PEv.neq (.tmp rfl) (.const _)) (by rw [codeE, if_neg (by rw [hq4]; exact Bool.false_ne_true)]; rfl)) rfl rfl rfl ?_
    refine LW.p (PEv.assign (.tmp rfl)) rfl rfl rfl (LW.nil (KW.then ?_))
    refine CW.cond_true (.tmp rfl) ?_
    refine CW.skip (KW.then ?_)
    refine CW.cond_true (.tmp rfl) ?_
    refine CW.seq (CW.region (LW.p (PEv.assign (.const _)) rfl rfl rfl (LW.nil (KW.then (CW.ret (KW.block_ret (KW.then_ret ?_)))))))
    refine KW.ret1 rfl rfl ⟨_, rfl, ?_⟩
    refine ⟨congrArg Go.Value.bool ?_, hW⟩
    first | exact prev_inv (by rw [hq3]; rfl) | exact prev_inv (by rw [hq3, hq4]; rfl) | exact prev_key h19 | exact prev_ver hq3 hq4 h19 h29 | exact prev_cmp hq3 hq4 h19 h29
   | true =>
    refine CW.region (LW.p (PEv.move (.tmp rfl)) rfl rfl rfl ?_)
    refine LW.p (PEv.fa (PEv.neq (.tmp rfl) (.const _)) (by rw [codeE, if_pos hq4]; rfl)) rfl rfl rfl ?_
    refine LW.p (PEv.assign (.tmp rfl)) rfl rfl rfl (LW.nil (KW.then ?_))
    refine CW.cond_false (.tmp rfl) ?_
    refine CW.draws (by kernel_rfl) (by kernel_rfl) rfl rfl ?_
    refine HW.p (PEv.loadA Tryz.isAgg46 Tryz.sizeOf46 rfl (.tmp rfl) (hB2.agg)) rfl rfl ?_
    refine HW.c (fun a w _ ha => enter_call0 (.cons (.tmp rfl) .nil) (Tryz.en33) a ha) rfl rfl (fun w hu => Key_any a w) ?_
    refine HW.p (PEv.loadA Tryz.isAgg46 Tryz.sizeOf46 rfl (.tmp rfl) (hB3.agg)) rfl rfl ?_
    refine HW.c (fun a w _ ha => enter_call0 (.cons (.tmp rfl) .nil) (Tryz.en33) a ha) rfl rfl (fun w hu => Key_any b w) ?_
    refine HW.p (PEv.neqStr (.tmp rfl) (.tmp rfl)) rfl rfl ?_
    refine HW.p (PEv.assign (.tmp rfl)) rfl rfl ?_
    refine HW.nil ?_
    intro w5 uw5
    have zw5 := uw5.size
    replace hW := hW.up uw5
    replace hB2 := hB2.up uw5
    replace hB3 := hB3.up uw5
    refine KW.then ?_
    refine CW.cond (.tmp rfl) (fun h19 => ?_) (fun h19 => ?_)
    ·first | replace h19 := of_decide_eq_true h19 | replace h19 := of_decide_eq_false h19 | skip
     refine CW.seq (CW.region (LW.p (PEv.assign (.const _)) rfl rfl rfl (LW.nil (KW.then (CW.ret (KW.block_ret (KW.then_ret ?_)))))))
     refine KW.ret1 rfl rfl ⟨_, rfl, ?_⟩
     refine ⟨congrArg Go.Value.bool ?_, hW⟩
     first | exact prev_inv (by rw [hq3]; rfl) | exact prev_inv (by rw [hq3, hq4]; rfl) | exact prev_key h19 | exact prev_ver hq3 hq4 h19 h29 | exact prev_cmp hq3 hq4 h19 h29
    ·first | replace h19 := of_decide_eq_true h19 | replace h19 := of_decide_eq_false h19 | skip
     refine CW.seq (CW.region ?_)
     refine LW.p (PEv.fieldAddr (off := 2) Tryz.underlying46 rfl rfl Tryz.sizeOf3 rfl (.tmp rfl)) rfl rfl rfl ?_
     refine LW.p (PEv.load Tryz.isAgg3 (.tmp rfl) (hB2.celln rfl)) rfl rfl rfl ?_
     refine LW.p (PEv.fieldAddr (off := 2) Tryz.underlying46 rfl rfl Tryz.sizeOf3 rfl (.tmp rfl)) rfl rfl rfl ?_
     refine LW.p (PEv.load Tryz.isAgg3 (.tmp rfl) (hB3.celln rfl)) rfl rfl rfl ?_
     refine LW.p (PEv.neq (.tmp rfl) (.tmp rfl)) rfl rfl rfl ?_
     refine LW.p (PEv.assign (.tmp rfl)) rfl rfl rfl (LW.nil (KW.then ?_))
     refine CW.cond (.tmp rfl) (fun h29 => ?_) (fun h29 => ?_)
     ·first | replace h29 := of_decide_eq_true h29 | replace h29 := of_decide_eq_false h29 | skip
      refine CW.seq (CW.region ?_)
      refine LW.p (PEv.fieldAddr (off := 2) Tryz.underlying46 rfl rfl Tryz.sizeOf3 rfl (.tmp rfl)) rfl rfl rfl ?_
      refine LW.p (PEv.load Tryz.isAgg3 (.tmp rfl) (hB2.celln rfl)) rfl rfl rfl ?_
      refine LW.p (PEv.fieldAddr (off := 2) Tryz.underlying46 rfl rfl Tryz.sizeOf3 rfl (.tmp rfl)) rfl rfl rfl ?_
      refine LW.p (PEv.load Tryz.isAgg3 (.tmp rfl) (hB3.celln rfl)) rfl rfl rfl ?_
      refine LW.p (PEv.gtr (.tmp rfl) (.tmp rfl)) rfl rfl rfl ?_
      refine LW.p (PEv.assign (.tmp rfl)) rfl rfl rfl (LW.nil (KW.then (CW.ret (KW.block_ret (KW.then_ret ?_)))))
      refine KW.ret1 rfl rfl ⟨_, rfl, ?_⟩
      refine ⟨congrArg Go.Value.bool ?_, hW⟩
      first | exact prev_inv (by rw [hq3]; rfl) | exact prev_inv (by rw [hq3, hq4]; rfl) | exact prev_key h19 | exact prev_ver hq3 hq4 h19 h29 | exact prev_cmp hq3 hq4 h19 h29
     ·first | replace h29 := of_decide_eq_true h29 | replace h29 := of_decide_eq_false h29 | skip
      refine CW.skip (KW.inBlock (KW.then (CW.seq (CW.region (LW.p (PEv.move (.tmp rfl)) rfl rfl rfl (LW.p (PEv.move (.tmp rfl)) rfl rfl rfl ?_))))))
      refine LW.c (enter_call0 (.cons (.tmp rfl) (.cons (.tmp rfl) .nil)) (Tryz.en58)) rfl rfl rfl rfl (Compare_any _ _ _) ?_
      rintro _ w6 ⟨rfl, uw6⟩
      have zw6 := uw6.size
      replace hW := hW.up uw6
      replace hB2 := hB2.up uw6
      replace hB3 := hB3.up uw6
      refine LW.p (PEv.gtr (.tmp rfl) (.const _)) rfl rfl rfl ?_
      refine LW.p (PEv.assign (.tmp rfl)) rfl rfl rfl (LW.nil (KW.then (CW.ret ?_)))
      refine KW.ret1 rfl rfl ⟨_, rfl, ?_⟩
      refine ⟨congrArg Go.Value.bool ?_, hW⟩
      first | exact prev_inv (by rw [hq3]; rfl) | exact prev_inv (by rw [hq3, hq4]; rfl) | exact prev_key h19 | exact prev_ver hq3 hq4 h19 h29 | exact prev_cmp hq3 hq4 h19 h29
end Go.Proofs.YthfjagphcekcbaaGreat
