import Derived.Test.YtmimclgihlhaeaaGreatKR67
import Derived.Lib.Bytealg
section
namespace Go.Wx
open Go.RowKit
def PhU (q : Ph) : Prop := ∀ v w w', q.holds v w → Up w w' → q.holds v w'
theorem PhU.eq (v : Value) : PhU (.eq v) := fun _ _ _ h _ => h
theorem PhU.pred {p : Value → World → Prop} (h : ∀ v w w', p v w → Up w w' → p v w') : PhU (.pred p) := h
def allU : List Ph → Prop
 | [] => True
 | q :: r => PhU q ∧ allU r
theorem allU.at : ∀ {l : List Ph}, allU l → ∀ i, PhU (l.getD i (.eq undef))
 | [], _, _ => by simpa using PhU.eq undef
 | _ :: _, h, 0 => by simpa using h.1
 | _ :: _, h, i + 1 => by simpa using allU.at h.2 i
section
variable {R : Option Nat} {m : Nat} {P : Program} {n : Nat} {ds : List Deferred} {Q : Exit → Go.Act → World → Prop} {l : Env} {w : World} {ops : Array Oper}
theorem Hm {id : Nat} {opsL : List Oper} (k : Nat) (Dc : List Ph) (keep : List Nat) (hm : P.follows .mixedOrders = true) (hl : Bj l = true)
   (hA : Dd opsL.toArray = true) (hC : (Nat.beq k opsL.toArray.size || Ez opsL.toArray k) = true) (hF : H8 opsL.toArray k = true) (hks : Nat.ble k opsL.toArray.size = true) (hD : F5 n opsL.toArray 0 k = true) (hTl : F4 opsL.toArray k = true)
   (hfree : I9 l (opsL.take k) = true) (hph : allU Dc)
   (hop : ∀ W, Up w.drew W → allL (fun i o => o.guard = none ∧ TU P n ds (Je opsL.toArray (fun i => Dc.getD i (.eq undef)) 0 o ++ l) W o (Dc.getD i (.eq undef))) 0 (opsL.take k))
   (hend : ∀ W (g : Nat → Value), Up w.drew W → (∀ i o d, i < k → opsL[i]? = some o → o.dst = some d → (Dc.getD i (.eq undef)).holds (g d) W) → LW R m P n ds opsL.toArray Q (opsL.drop k) (keep.map (fun d => (d, .eq (g d))) ++ l) W) :
   CW R m P n ds (.region id opsL.toArray true) Q l w := by
 have hks' : k ≤ opsL.length := by have := Nat.le_of_ble_eq_true hks; simp at this; omega
 have sub : ∀ j o, j < k → opsL.toArray[j]? = some o → (opsL.take k)[j]? = some o := fun j o hjk ho => by
   rw [List.getElem?_take_of_lt hjk]; simpa using ho
 have hbd : ∀ i ph, lk l i = some ph → ∀ (j : Nat) (o : Oper), 0 ≤ j → j < k → opsL.toArray[j]? = some o → o.dst ≠ some i := fun i ph hi j o _ hjk ho => Fk hfree hi (List.mem_of_getElem? (sub j o hjk ho))
 refine Eg hm hl fun fuel listed a hf hu ha => ?_
 refine AWF.gen (k := k) (fun i => Dc.getD i (.eq undef)) Up (fun _ _ _ => True) (f0 := fun t => a.tmps.getD t undef) Up.refl (fun _ _ _ => Up.trans) (fun i v w w' h u => (hph.at i) v w w' h u) hA hC hF hks (by simp) hD hl hbd ?_ trivial ?_ fuel listed a hf hu ha (fun _ => rfl)
 · intro i o _ hi hio L f W hU hDn hLi hed _ a ha hsl
   have h3 := (hop W hU).at (sub i o hi hio)
   rw [Nat.zero_add] at h3
   obtain ⟨hg, h3⟩ := h3
   rw [if_pos (by simp [Region.wanted, hg])]
   have done : ∀ v W', Up W W' ∧ (Dc.getD i (.eq undef)).holds v W' → Up W W' ∧ (∀ d, o.dst = some d → (Dc.getD i (.eq undef)).holds v W') ∧ True := fun v W' h => ⟨h.1, fun _ _ => h.2, trivial⟩
   rcases h3 a ha with ⟨v, W', hr, hp⟩ | ⟨fn, args, w1, hr, hc⟩
   · exact .inl (.inl ⟨v, W', hr, done v W' hp⟩)
   exact .inl (.inr ⟨fn, args, w1, hr, hc.mono done⟩)
 intro f W hUp _ fuel' listed' a' hf' hu' ha' hsl'
 have key : ∀ i o d, i < k → opsL[i]? = some o → o.dst = some d → (Dc.getD i (.eq undef)).holds (f d) W := by
   intro i o d hik ho hd
   have ho' : opsL.toArray[i]? = some o := by simpa using ho
   have hmem : (d, Dc.getD i (.eq undef)) ∈ Gn opsL.toArray (fun i => Dc.getD i (.eq undef)) 0 k := by
     unfold Gn
     rw [List.mem_filterMap]
     exact ⟨i, List.mem_range.2 hik, by rw [if_pos (by simp), ho']; simp [hd]⟩
   obtain ⟨q', hq⟩ := Gw hmem
   obtain ⟨j, p, _, hjk, hp, hpd, e⟩ := Et hq
   have : j = i := by
     by_cases ee : j = i
     · exact ee
     exact absurd hpd ((Cn hD (Nat.zero_le _) hik ho' hd).2 j p (Nat.zero_le _) hjk ee hp)
   subst this
   have := ha'.val d q' (J1 hq)
   rw [hsl', e] at this
   exact this
 refine Ej hTl hA (opsL.toArray.size - k) k fuel' listed' a' W rfl (by simp; omega) (Nat.le_refl _) hf' hu' ?_
 refine hend W f hUp key a' ⟨ha'.defers, ha'.size, fun t q ht => ?_⟩
 rcases C0 ht with h | h
 · obtain ⟨d, _, he⟩ := List.mem_map.1 (J0 h)
   cases he
   exact hsl' _
 refine ha'.val t q ?_
 rw [Fe]
 · exact h
 cases hq : lk (Gn opsL.toArray (fun i => Dc.getD i (.eq undef)) 0 k) t with
 | none => rfl
 | some q' =>
   obtain ⟨j, p, _, hjk, hp, hpd, _⟩ := Et hq
   exact absurd hpd (hbd t q h j p (Nat.zero_le _) hjk hp)
end
section
variable {P : Program} {n : Nat} {ds : List Deferred} {l : Env} {w : World} {d : Option Tmp} {ty : TypeId} {ps : String} {af : Array Edge} {g : Option (Nat × Bool)}
theorem PEv.gX {S i : Nat} {x : Operand} {fs : Array Field} {f : Field} {off : Nat} {cs : Array Value} {v : Value} (hS : P.underlying S = some (.struct fs)) (hf : fs[i]? = some f) (ho : f.offset = off) (hA : ∀ w, (isAgg f.type).run P w = .ok false w) (hx : Val l x (.agg cs)) (hv : cs[off]? = some v) :
   PEv P n ds l w ⟨d, .field S x i, ty, ps, af, g⟩ v := fun a w' ha _ => by
 refine Br ?_
 rw [ha.ev hx]
 simp [Instr.field, run_underlying hS, Sem.run_bind, hf, asAgg, part, hA, ho, hv, Result.andThen]
theorem Sw {f : FuncId} {fn : Func} (hf : P.funcs[f]? = some fn) (h1 : (fn.name == "runtime.NumGoroutine") = false) (h2 : fn.body.isNone = true) (h3 : Extern.findNext fn = none) (h4 : Extern.find fn = some Extern.BytealgCompare.compare) (a b : ByteArray) (w : World) :
   (callFunc f [.string a, .string b].toArray).run P w = .ok (.value (vi (Lib.compareBytes a.data.toList b.data.toList))) w := by
 rw [run_callFunc_extern hf h1 h2 h3 h4]
 have := Lib.run_compareString (P := P) a b w
 show (Sem.run P (Extern.BytealgCompare.compare #[.string a, .string b]) w).andThen _ = _
 rw [this]
 rfl
end
end Go.Wx
end
section
namespace Go.Wx
def wL (p : UInt8 × Bool) : Array Go.Value := #[bv p.1, .bool p.2]
theorem pM (z : Nat) : Q8 z ≠ [] := by unfold Q8 Ou; split <;> simp
theorem PEv.val {P : Program} {n : Nat} {ds : List Deferred} {l : Env} {w : World} {o : Oper} {v v' : Go.Value} (h : PEv P n ds l w o v) (e : v = v') : PEv P n ds l w o v' := e ▸ h
theorem gY {pre : List (UInt8 × Bool)} {z zz : Nat} {b : Bool} (hb : b = true ↔ zz < 128) (h : Q8 z = pre ++ Q8 zz) (hz : b = true) : pre ++ [(UInt8.ofNat (zz % 128), b)] = Q8 z := by
 have hz1 := hb.1 hz
 rw [h, dP hz1, Nat.mod_eq_of_lt hz1, hz]
theorem gZ {pre : List (UInt8 × Bool)} {z zz : Nat} {b : Bool} (hb : b = true ↔ zz < 128) (h : Q8 z = pre ++ Q8 zz) (hz : b = false) (h64 : zz < 18446744073709551616) : Q8 z = (pre ++ [(UInt8.ofNat (zz % 128), b)]) ++ Q8 (zz / 128) ∧ zz / 128 < zz := by
 have hz1 : ¬ zz < 128 := fun e => by rw [hb.2 e] at hz; cases hz
 rw [h, lW hz1 h64, hz]
 exact ⟨by simp, by omega⟩
theorem iA {zz : Nat} {b : Bool} (hb : b = decide ((zz : Int) < 128)) : b = true ↔ zz < 128 := ⟨fun h => by have := of_decide_eq_true (hb.symm.trans h); omega, fun h => hb.trans (decide_eq_true oQ)⟩
theorem iB {pre : List (UInt8 × Bool)} {z zz : Nat} (h : Q8 z = pre ++ Q8 zz) : pre.length < 10 := by
 have h1 := aZ z
 have h2 := List.length_pos_iff.2 (pM zz)
 rw [h, List.length_append] at h1
 omega
theorem bE {x : UInt8 × Bool} (h : (!x.2) = true) : Wf x = x.1 ||| 128 := if_neg (by simpa using h)
theorem Wi {x : UInt8 × Bool} (h : (!x.2) = false) : Wf x = x.1 := if_pos (by simpa using h)
def iC (n : Int) : Int := if Ov n then 0 else 10
theorem bF {n : Int} (h : Ov n) : encI n = (Q8 (aY n)).map Wf := by rw [encI, if_pos h]; rfl
theorem Wj {n : Int} (h : ¬ Ov n) : encI n = [] := by rw [encI, if_neg h]
end Go.Wx
namespace Go.Proofs.YtmimclgihlhaeaaGreat
open Go.Proofs.Tryz
open Go.Wx Go.RowKit
theorem Y9 (z : Nat) (w : World) : Ret Tryz.prog 168 #[vu z] w fun r w' => (∃ B, r = .func (.func 190) #[] #[.pointer (some ⟨B, 0, none⟩)] ∧ Blk w' B #[vu z] 190 ∧ w.heap.size ≤ B) ∧ Up w w' := by
 have hW := Up.refl w
 refine cS (n := 4) (m := 9) func168 rfl rfl rfl ?_
 refine CW.S ?_
 refine Ah (.Mi (.t rfl) rfl) rfl ?_
 rintro _ w1 ⟨B1, rfl, NB1⟩
 have eB1 := NB1.at_
 have zB1 := NB1.size
 replace hW := hW.up NB1.up
 have hB1 := NB1.blk
 refine LW.C (LW.S (CW.region ?_))
 refine LW.pp (.makeFunc (.cons (.t rfl) .nil)) ?_
 refine LW.A rfl (LW.T (CW.ret ?_))
 refine Af rfl rfl ⟨_, rfl, ?_⟩
 exact ⟨⟨_, rfl, hB1, by omega⟩, hW⟩
theorem Wk (B1 z : Nat) (w : World) (hz : z < 18446744073709551616) (hB : Blk w B1 #[vu z] 190) : oJ Tryz.prog 190 #[.pointer (some ⟨B1, 0, none⟩)] wL (fun b => b = B1) (fun ys => ys = Q8 z) 10 w := by
 intro lp J w0 hUw hJZ hY hJ
 have hB1 := hB.up hUw
 refine cS (n := 18) (m := 9) func190 rfl rfl rfl ?_
 refine CW.block ?_
 refine CW.loop (σ := List (UInt8 × Bool) × Nat) (fun s w => Q8 z = s.1 ++ Q8 s.2 ∧ s.2 < 18446744073709551616 ∧ J s.1 w ∧ Blk w B1 #[vu s.2] 190) (fun s => [(0, .eq (.func (.yield lp) #[] #[])), (1, .eq (.pointer (some ⟨B1, 0, none⟩)))]) (fun s => s.2) ([], z) ?_ ?_ ?_
 ·exact ⟨rfl, hz, hJ, hB1⟩
 ·exact ⟨rfl, rfl, trivial⟩
 rintro ⟨pre, zz⟩ w1 ⟨hg, h64, hJ, hB1⟩
 dsimp only at hg h64 hJ hB1
 obtain ⟨lb, hlb⟩ : ∃ b, b = decide ((zz : Int) < 128) := ⟨_, rfl⟩
 refine CW.block (CW.S ?_)
 refine LW.pp (.ld isAgg190 rfl ((hB1).Ak rfl)) ?_
 refine LW.pp (.val (v' := .bool lb) (PEv.lss (.t rfl) (.const _)) (congrArg Go.Value.bool hlb.symm)) ?_
 refine LW.A rfl (LW.S (CW.S (LW.M rfl ?_)))
 refine LW.pp (.ld isAgg190 rfl ((hB1).Ak rfl)) ?_
 refine LW.pp (.val (v' := vu (zz % 128)) (dN (.t rfl) (.const _)) (congrArg (Go.Value.int .u64) (pH h64))) ?_
 refine LW.pp (.val (v' := bv (UInt8.ofNat (zz % 128))) (PEv.conv (k' := .u8) (by rw [underlying190]; rfl) underlying5 (.t rfl)) (lY (z := zz % 128))) ?_
 refine LW.M rfl ?_
 have hY2 := hY pre (UInt8.ofNat (zz % 128), lb) _ hJ (iB hg)
 refine LW.y (vs := [bv (UInt8.ofNat (zz % 128)), .bool lb]) (.t rfl) (.cons (.t rfl) (.cons (.t rfl) .nil)) rfl rfl hY2 ?_
 rintro _ w2 ⟨rfl, hJ2, hkp⟩
 replace hB1 : Blk w2 B1 _ _ := (hkp B1 rfl).trans hB1
 refine LW.pp (.not (.t rfl)) ?_
 refine LW.M rfl ?_
 refine LW.g rfl rfl rfl rfl rfl rfl rfl (fun hc => PEv.move (.t rfl)) ?_
 refine LW.pp (.Cd (.t rfl) (fun hp => (by first | exact .const _ | exact .tmp rfl | exact .cond rfl (by first | assumption | simp_all)))) ?_
 refine LW.T ?_
 refine CW.cond (.t rfl) (fun h15 => ?_) (fun h15 => ?_)
 ·replace h15 := dQ h15
  refine CW.ret (Ae (Ao (Ae (Ao ?_))))
  refine G1 rfl ⟨_, rfl, ?_⟩
  exact ⟨_, gY (iA hlb) hg (by simpa using h15), hJ2⟩
 replace h15 := dQ h15
 refine CW.skip (KW.then (CW.region ?_))
 refine LW.pp (.ld isAgg190 rfl ((hB1).Ak rfl)) ?_
 refine LW.pp (.val (v' := vu (zz / 128)) (PEv.Md (j := 7) (.t rfl) (.const _)) (congrArg (Go.Value.int .u64) (wK (z := zz)))) ?_
 refine LW.E (.store sizeOf190 (.t rfl) (.t rfl) rfl hB1 (Nat.le_of_ble_eq_true rfl)) ?_
 intro w3 Nw3
 have zw3 := Nw3.size
 replace hB1 := Nw3.blk
 replace hB1 : Blk w3 B1 #[vu (zz / 128)] _ := hB1
 refine LW.nil (KW.inBlock (KW.round ?_))
 have hnx := gZ (iA hlb) hg (by simpa using h15) h64
 exact ⟨(_, zz / 128), ⟨hnx.1, by dsimp only; omega, hJZ _ _ _ hJ2 Nw3.sto.fr, hB1⟩, ⟨rfl, rfl, trivial⟩, hnx.2⟩
theorem Rb (n : Int) (w : World) : Ret Tryz.prog 116 #[vi n] w fun r w' => r = .tuple #[.string ⟨(encI n).toArray⟩, vi (iC n)] ∧ Up w w' := by
 have hW := Up.refl w
 obtain ⟨w0, rfl⟩ : ∃ w0, w0 = w := ⟨_, rfl⟩
 refine Hj (n := 33) func116 rfl rfl rfl ?_
 refine CW.S (LW.C (LW.C (LW.S (CW.seq ?_))))
 cases hq1 : decide (Ov n) with
 | true =>
  have hin := of_decide_eq_true hq1
  obtain ⟨hin1, hin2⟩ := hin
  have hin : Ov n := ⟨hin1, hin2⟩
  refine CW.region (LW.M rfl ?_)
  refine LW.pp (.fa (PEv.lss (.t rfl) (.const _)) (decide_eq_false oQ)) ?_
  refine LW.M rfl ?_
  refine LW.Y ?_
  refine LW.M rfl ?_
  refine LW.Y ?_
  refine LW.pp (.fa (PEv.gtr (.t rfl) (.const _)) (decide_eq_false oQ)) ?_
  refine LW.pp (.Cd (.t rfl) (fun hp => (by first | exact .const _ | exact .tmp rfl | exact .cond rfl (by first | assumption | simp_all)))) ?_
  refine LW.T ?_
  refine CW.cond_false (.t rfl) ?_
  refine CW.skip (KW.then (CW.S ?_))
  refine Ah (.Yo zeroValue120 rfl) rfl ?_
  rintro _ w1 ⟨B4, rfl, NB4⟩
  have eB4 := NB4.at_
  have zB4 := NB4.size
  replace hW := hW.up NB4.up
  have hB4 := NB4.blk
  refine LW.S (CW.S (LW.M rfl ?_))
  refine LW.pp (.conv (k' := .u64) (by rw [underlying3]; rfl) underlying190 (.t rfl)) ?_
  refine LW.pp (.tN (j := 1) (.t rfl) (.const _)) ?_
  refine LW.M rfl ?_
  refine LW.pp (.Md (j := 63) (.t rfl) (.const _)) ?_
  refine LW.pp (.conv (k' := .u64) (by rw [underlying3]; rfl) underlying190 (.t rfl)) ?_
  refine LW.pp (.val (v' := vu (aY n)) (dO (.t rfl) (.t rfl)) (congrArg (Go.Value.int .u64) (gW hin))) ?_
  refine LW.K (eC (.o rfl) (tD)) rfl (Y9 _ _) ?_
  rintro _ w2 ⟨⟨B1, rfl, hBz, zz1⟩, uw2⟩
  have zw2 := uw2.size
  replace hW := hW.up uw2
  replace hB4 := hB4.up uw2
  refine LW.T (CW.block ?_)
  obtain ⟨bq, hbq⟩ : ∃ bq, bq = w2.heap.size := ⟨_, rfl⟩
  have zBz := hBz.lt
  refine Sv (fun b => b = B1) (fun pre W => Sz bq W ∧ ∃ v, Blk W B4 #[v] 120 ∧ OwnS W bq 5 1 Qd v (pre.map Wf) ∧ Up w0 W) (fun x => [(5, .eq (bv x.1)), (6, .eq (.bool x.2)), (4, .eq (.pointer (some ⟨B4, 0, none⟩)))]) (.t rfl) (fun args w => tH args w) (fun W hu => Wk B1 (aY n) W (Y2 hin.1 hin.2) (hBz.up hu)) (fun _ => rfl) rfl ?_ ?_ ?_ ?_ ?_ (fun _ => rfl) ?_ ?_
  ·rintro b rfl
   omega
  ·rw [← hbq]
   intro pre W W' row hs hg hr
   obtain ⟨hZ, v, hB4, hO, hW⟩ := hs
   exact ⟨hZ.ko (Ko.grown hg hr), v, hB4.ko (Ko.grown hg hr), hO.ko (Ko.grown hg hr), hW.ko (Ko.grown hg hr) oQ⟩
  ·intro pre W W' hs hf
   obtain ⟨hZ, v, hB4, hO, hW⟩ := hs
   exact ⟨hZ.pL hf, v, hB4.pL hf oQ, hO.pL hf (fun b e => by subst e; omega), hW.pL hf (fun b e => by subst e; omega)⟩
  ·exact ⟨Nat.le_of_eq hbq, _, hB4, OwnS.nil _ _ _ _ _, hW⟩
  ·intro lp x w3
   refine Y8 rfl rfl ?_
   refine CW.S (LW.A rfl (LW.T (CW.region (LW.A rfl (LW.nil ?_)))))
   exact fun a ha => ⟨rfl, ha.sub ⟨rfl, rfl, rfl, trivial⟩⟩
  ·rw [← hbq]
   intro lp pre x w4 hs hlt
   obtain ⟨hZ, v, hB4, hO, hW⟩ := hs
   have zq := hZ.le
   have hK := Kf.refl bq w4
   have hI1 := Zk.refl (B := B1) (w := w4) oQ
   refine CW.block (CW.seq (CW.S (LW.M rfl ?_)))
   refine LW.pp (.not (.t rfl)) ?_
   refine LW.T ?_
   refine CW.cond (.t rfl) (fun h24 => ?_) (fun h24 => ?_)
   ·replace h24 := dQ h24
    refine CW.region (LW.M rfl ?_)
    refine LW.pp (.val (v' := bv (x.1 ||| 128)) (gB (.t rfl) (.const _)) (congrArg (Go.Value.int .u8) tO)) ?_
    refine LW.A rfl (LW.T (CW.region ?_))
    refine LW.pp (.ld isAgg120 rfl (hB4.Ak rfl)) ?_
    refine LW.M rfl ?_
    refine Ah (.buildSlice (xs := [_]) (enc := Qd) (mk := bv) underlying120 sizeOf5 zeroValue5 rfl cQ (fun _ => rfl) (fun _ => rfl) (.cons (.t rfl) .nil) rfl) rfl ?_
    rintro _ w5 ⟨B29, cB29, rfl, NB29, yB29, xB29⟩
    have eB29 := NB29.at_
    have zB29 := NB29.size
    replace hZ := hZ.up NB29.up
    replace hB4 := hB4.up NB29.up
    replace hO := hO.up NB29.up
    replace hW := hW.up NB29.up
    replace hK := hK.up NB29.up
    replace hI1 := hI1.up NB29.up
    have hB29 := NB29.blk
    have hE29 := xB29
    refine Ah (.append (enc := Qd) (base := bq) (bytes := 1) (i := Tryz.t5) underlying120 kQ rfl rfl rfl rfl cQ (fun _ => rfl) bC (.t rfl) (.t rfl) hO (Aj hE29) (by simp) (by simp [maxLen]; omega) (by simp; omega) oQ) rfl ?_
    rintro v30 w6 ⟨Ow6, Gw6⟩
    have zw6 := Gw6.size
    replace hZ := hZ.gr Gw6 rfl
    replace hB4 := hB4.gr Gw6 oQ
    replace hW := hW.gr Gw6 oQ
    replace hK := hK.gr Gw6
    replace hI1 := hI1.gr Gw6 oQ
    replace hO := Ow6
    refine LW.E (.store sizeOf120 (.t rfl) (.t rfl) hO.one hB4 (Nat.le_of_ble_eq_true rfl)) ?_
    intro w7 Nw7
    have zw7 := Nw7.size
    replace hZ := hZ.sto Nw7.sto oQ
    replace hO := hO.sto Nw7.sto oQ
    replace hW := hW.sto Nw7.sto oQ
    replace hK := hK.sto Nw7.sto (.inr (.inr ⟨_, _, hB4⟩))
    replace hI1 := hI1.sto Nw7.sto oQ
    replace hB4 := Nw7.blk
    replace hB4 : Blk w7 B4 #[v30] _ := hB4
    refine LW.nil (KW.inBlock ?_)
    exact fun a ha => ⟨hK, fun b e => by subst e; exact hI1.same, hZ, _, hB4, by rw [List.map_append, List.map_cons, List.map_nil]; first | (rw [bE h24]; exact hO) | (rw [Wi h24]; exact hO), hW⟩
   replace h24 := dQ h24
   refine CW.skip (KW.then (CW.region ?_))
   refine LW.pp (.ld isAgg120 rfl (hB4.Ak rfl)) ?_
   refine LW.M rfl ?_
   refine Ah (.buildSlice (xs := [_]) (enc := Qd) (mk := bv) underlying120 sizeOf5 zeroValue5 rfl cQ (fun _ => rfl) (fun _ => rfl) (.cons (.t rfl) .nil) rfl) rfl ?_
   rintro _ w8 ⟨B29, cB29, rfl, NB29, yB29, xB29⟩
   have eB29 := NB29.at_
   have zB29 := NB29.size
   replace hZ := hZ.up NB29.up
   replace hB4 := hB4.up NB29.up
   replace hO := hO.up NB29.up
   replace hW := hW.up NB29.up
   replace hK := hK.up NB29.up
   replace hI1 := hI1.up NB29.up
   have hB29 := NB29.blk
   have hE29 := xB29
   refine Ah (.append (enc := Qd) (base := bq) (bytes := 1) (i := Tryz.t5) underlying120 kQ rfl rfl rfl rfl cQ (fun _ => rfl) bC (.t rfl) (.t rfl) hO (Aj hE29) (by simp) (by simp [maxLen]; omega) (by simp; omega) oQ) rfl ?_
   rintro v30 w9 ⟨Ow9, Gw9⟩
   have zw9 := Gw9.size
   replace hZ := hZ.gr Gw9 rfl
   replace hB4 := hB4.gr Gw9 oQ
   replace hW := hW.gr Gw9 oQ
   replace hK := hK.gr Gw9
   replace hI1 := hI1.gr Gw9 oQ
   replace hO := Ow9
   refine LW.E (.store sizeOf120 (.t rfl) (.t rfl) hO.one hB4 (Nat.le_of_ble_eq_true rfl)) ?_
   intro w10 Nw10
   have zw10 := Nw10.size
   replace hZ := hZ.sto Nw10.sto oQ
   replace hO := hO.sto Nw10.sto oQ
   replace hW := hW.sto Nw10.sto oQ
   replace hK := hK.sto Nw10.sto (.inr (.inr ⟨_, _, hB4⟩))
   replace hI1 := hI1.sto Nw10.sto oQ
   replace hB4 := Nw10.blk
   replace hB4 : Blk w10 B4 #[v30] _ := hB4
   refine LW.nil (KW.inBlock ?_)
   exact fun a ha => ⟨hK, fun b e => by subst e; exact hI1.same, hZ, _, hB4, by rw [List.map_append, List.map_cons, List.map_nil]; first | (rw [bE h24]; exact hO) | (rw [Wi h24]; exact hO), hW⟩
  intro D ys w11 hDb hSy hs hD
  rw [← hbq] at hDb
  obtain ⟨hZ, v, hB4, hO, hW⟩ := hs
  replace hD : Ob w11 D (.deferred (some [])) := hD
  have zD := hD.lt
  have zq := hZ.le
  refine KW.inBlock (KW.then (CW.S ?_))
  refine LW.pp (.ld isAgg120 rfl (hB4.Ak rfl)) ?_
  refine LW.pp (.pI underlying120 underlying5 underlying9 (.t rfl) hO) ?_
  refine LW.A rfl (LW.C (LW.T (CW.ret ?_)))
  refine Oj hD rfl ?_
  replace hZ := hZ.ko (Ko.putObj (.deferred none) hD rfl hDb)
  replace hB4 := hB4.ko (Ko.putObj (.deferred none) hD rfl hDb)
  replace hO := hO.ko (Ko.putObj (.deferred none) hD rfl hDb)
  replace hW := hW.putObj (D := D) (.deferred none) oQ
  refine Hi rfl rfl rfl ⟨_, rfl, ?_⟩
  first | (rw [bF hin, iC, if_pos hin]; subst hSy; exact ⟨rfl, hW⟩) | (rw [Wj hin, iC, if_neg hin]; exact ⟨rfl, hW⟩)
 | false =>
  have hin := of_decide_eq_false hq1
  refine CW.region (LW.M rfl ?_)
  refine LW.pp (.lss (.t rfl) (.const _)) ?_
  refine LW.M rfl ?_
  refine LW.g rfl rfl rfl rfl rfl rfl rfl (fun hc => PEv.move (.t rfl)) ?_
  refine LW.g rfl rfl rfl rfl rfl rfl rfl (fun hc => PEv.gtr vQ (.const _)) ?_
  refine LW.pp (.Cd (.t rfl) (fun hp => (by first | exact .const _ | exact .tmp rfl | exact .cond rfl (by first | assumption | simp_all)))) ?_
  refine LW.T ?_
  refine CW.cond (.t rfl) (fun h12 => ?_) (fun h12 => ?_)
  ·replace h12 := dQ h12
   refine CW.S (LW.C (LW.C (LW.T (CW.ret (Ae ?_)))))
   refine Yp ?_
   refine Hi rfl rfl rfl ⟨_, rfl, ?_⟩
   first | (rw [bF hin, iC, if_pos hin]; subst hSy; exact ⟨rfl, hW⟩) | (rw [Wj hin, iC, if_neg hin]; exact ⟨rfl, hW⟩)
  replace h12 := dQ h12
  exfalso
  apply hin
  unfold Ov
  simp at h12
  omega
end Go.Proofs.YtmimclgihlhaeaaGreat
namespace Go.Wx
theorem Wl (t : List UInt8) : (Y5 t).length ≤ 10 + t.length := by
 have := Np (t.length : Int)
 unfold Y5
 rw [List.length_append]
 omega
theorem Us (t : ByteArray) : t.data.toList.length = t.size := Array.length_toList
theorem Rc (c : List UInt8) : (⟨c.toArray⟩ : ByteArray).size = c.length := by simp [ByteArray.size]
end Go.Wx
namespace Go.Proofs.YtmimclgihlhaeaaGreat
open Go.Proofs.Tryz
open Go.Wx Go.RowKit
theorem Sx (t : ByteArray) (w : World) (ht : t.size ≤ 65536) : Ret Tryz.prog 140 #[.string t] w fun r w' => r = .tuple #[.string ⟨(Y5 t.data.toList).toArray⟩, vi 0] ∧ Up w w' := by
 have hW := Up.refl w
 refine cS (n := 18) (m := 9) func140 rfl rfl rfl ?_
 refine CW.S (LW.C (LW.C (LW.S (CW.S (LW.M rfl ?_)))))
 refine LW.pp (.Qp underlying9 (.t rfl)) ?_
 refine LW.pp (.fa (PEv.gtr (.t rfl) (.const _)) (decide_eq_false oQ)) ?_
 refine LW.T ?_
 refine CW.cond_false (.t rfl) ?_
 refine CW.skip (KW.then (CW.S (LW.M rfl ?_)))
 refine LW.pp (.Qp underlying9 (.t rfl)) ?_
 refine LW.K (eC (.o rfl) (oD)) rfl (Rb _ _) ?_
 rintro _ w1 ⟨rfl, uw1⟩
 have zw1 := uw1.size
 replace hW := hW.up uw1
 refine LW.M rfl (LW.pp (.extract (.t rfl) rfl) (LW.pp (.extract (.t rfl) rfl) (LW.A rfl (LW.A rfl (LW.S (CW.region (LW.M rfl (LW.M rfl ?_))))))))
 refine LW.pp (.pJ (.t rfl) (.t rfl) (by rw [Rc]; have := Np (t.size : Int); omega)) ?_
 refine LW.A rfl (LW.C (LW.T (CW.ret ?_)))
 refine Hi rfl rfl rfl ⟨_, rfl, ?_⟩
 refine ⟨?_, hW⟩
 rw [dS, Y5, Us]
theorem Sy (D : Wri) (bs : List UInt8) (w : World) (hD : (De 124 5 D (bs)).holds w) : Ret Tryz.prog 169 #[.pointer (some ⟨D.bd, 0, none⟩)] w fun r w' => r = .tuple #[] ∧ Stp (De 124 5 D (bs)) (De 124 5 ⟨D.bd, true, D.bf⟩ (bs)) w w' := by
 have hS := Ow hD
 obtain ⟨B, us, bf⟩ := D
 refine cS (n := 20) (m := 9) func169 rfl rfl rfl ?_
 refine CW.seq ?_
 cases hq0 : us with
 | false =>
  subst hq0
  replace hS : Sep _ w w [Cq B #[.pointer none, bf] 124, Ai 5 1 Qd bf bs] := hS
  refine CW.region (LW.M rfl ?_)
  refine LW.pp (.nilCheck (.t rfl)) ?_
  refine LW.pp (.fA 0 underlying122 rfl sizeOf119 rfl) ?_
  refine LW.pp (.ld isAgg119 rfl ((hS.blk 0 rfl).Ak rfl)) ?_
  refine LW.pp (.tr (PEv.Oh underlying119 (.t rfl)) (rfl)) ?_
  refine LW.T ?_
  refine CW.cond_true (.t rfl) ?_
  refine CW.region (LW.M rfl (LW.M rfl ?_))
  refine LW.pp (.tP (k := 1) underlying119 underlying224 kQ (.t rfl) (hS.blk 0 rfl) (by simp)) ?_
  refine LW.pp (.ext (.cons (.t rfl) .nil) (Ur func191 rfl rfl kQ kQ _)) ?_
  refine LW.pp (.lZ (k := 2) underlying224 underlying119 kQ (.t rfl) (hS.blk 0 rfl) kQ) ?_
  refine LW.pp (.nilCheck (.t rfl)) ?_
  refine LW.pp (.fA 0 underlying122 rfl sizeOf119 rfl) ?_
  refine LW.E (.store sizeOf119 (.t rfl) (.t rfl) rfl (hS.blk 0 rfl) (Nat.le_of_ble_eq_true rfl)) ?_
  intro w1 Nw1
  have zw1 := Nw1.size
  replace hS := hS.Gf 0 rfl (show Set_ _ w1 _ (#[.pointer (some ⟨B, 0, none⟩), bf]) _ from Nw1)
  change Wx.Sep _ _ _ [_, _] at hS
  refine LW.nil ?_
  refine Ci rfl ⟨_, rfl, ?_⟩
  exact ⟨rfl, J5 (rest := []) hS⟩
 | true =>
  subst hq0
  replace hS : Sep _ w w [Cq B #[.pointer (some ⟨B, 0, none⟩), bf] 124, Ai 5 1 Qd bf bs] := hS
  refine CW.region (LW.M rfl ?_)
  refine LW.pp (.nilCheck (.t rfl)) ?_
  refine LW.pp (.fA 0 underlying122 rfl sizeOf119 rfl) ?_
  refine LW.pp (.ld isAgg119 rfl ((hS.blk 0 rfl).Ak rfl)) ?_
  refine LW.pp (.fa (PEv.Oh underlying119 (.t rfl)) (rfl)) ?_
  refine LW.T ?_
  refine CW.cond_false (.t rfl) ?_
  refine CW.S (LW.M rfl ?_)
  refine LW.pp (.nilCheck (.t rfl)) ?_
  refine LW.pp (.fA 0 underlying122 rfl sizeOf119 rfl) ?_
  refine LW.pp (.ld isAgg119 rfl ((hS.blk 0 rfl).Ak rfl)) ?_
  refine LW.M rfl ?_
  refine LW.pp (.fa (Wg (k := 2) underlying119 kQ (.t rfl) (.t rfl)) (rfl)) ?_
  refine LW.T ?_
  refine CW.cond_false (.t rfl) ?_
  refine CW.skip ?_
  refine Ci rfl ⟨_, rfl, ?_⟩
  exact ⟨rfl, J5 (rest := []) hS⟩
theorem P2 (t : ByteArray) (D : Wri) (bs : List UInt8) (w : World) (hD : (De 124 5 D (bs)).holds w) (hlen : bs.length + t.size ≤ 140737488355328) : Ret Tryz.prog 117 #[.pointer (some ⟨D.bd, 0, none⟩), .string t] w fun r w' => r = .tuple #[vi (t.size : Int), .nilIface] ∧ ∃ bf, Stp (De 124 5 D (bs)) (De 124 5 ⟨D.bd, true, bf⟩ (bs ++ t.data.toList)) w w' := by
 have hS := Sep.cons hD (fun _ h => h) (Sep.start _ _) (by simp)
 refine cS (n := 19) (m := 9) func117 rfl rfl rfl ?_
 refine CW.S (LW.C (LW.C (LW.S (CW.region (LW.M rfl ?_)))))
 refine LW.K (eC (.o rfl) (tE)) rfl (Sy D bs _ (hS.get 0 rfl)) ?_
 rintro _ w1 ⟨rfl, uw1⟩
 have zw1 := uw1.fr.size
 replace hS := hS.Dj 0 rfl uw1
 change Wx.Sep _ _ _ [_] at hS
 refine LW.S ?_
 replace hS := Sep.unfold (Bs := []) (rest := []) hS
 replace hS : Sep _ _ _ [Cq D.bd #[.pointer (some ⟨D.bd, 0, none⟩), D.bf] 124, Ai 5 1 Qd D.bf bs] := hS
 refine CW.region (LW.M rfl (LW.M rfl ?_))
 refine LW.pp (.nilCheck (.t rfl)) ?_
 refine LW.pp (.fA 1 underlying122 rfl sizeOf120 rfl) ?_
 refine LW.pp (.ld isAgg120 rfl ((hS.blk 0 rfl).Ak rfl)) ?_
 refine LW.M rfl ?_
 refine Ah (.dU (i := Tryz.t5) underlying120 underlying9 kQ rfl rfl rfl (.t rfl) (.t rfl) (hS.own 1 rfl) oQ) rfl ?_
 intro v14 w2 Gw2
 have zw2 := Gw2.fr.size
 replace hS := hS.Dj 1 rfl Gw2
 change Wx.Sep _ _ _ [_, _] at hS
 refine LW.pp (.nilCheck (.t rfl)) ?_
 refine LW.pp (.fA 1 underlying122 rfl sizeOf120 rfl) ?_
 refine LW.E (.store sizeOf120 (.t rfl) (.t rfl) (hS.own 1 rfl).one (hS.blk 0 rfl) (Nat.le_of_ble_eq_true rfl)) ?_
 intro w3 Nw3
 have zw3 := Nw3.size
 replace hS := hS.Gf 0 rfl (show Set_ _ w3 _ (#[.pointer (some ⟨D.bd, 0, none⟩), v14]) _ from Nw3)
 change Wx.Sep _ _ _ [_, _] at hS
 refine LW.S (CW.region (LW.M rfl ?_))
 refine LW.pp (.Qp underlying9 (.t rfl)) ?_
 refine LW.A rfl (LW.C (LW.T (CW.ret ?_)))
 refine Hi rfl rfl rfl ⟨_, rfl, ?_⟩
 exact ⟨rfl, v14, J5 (rest := []) hS⟩
theorem Za (D : Wri) (bs : List UInt8) (w : World) (hD : (De 124 5 D (bs)).holds w) (hne : bs ≠ []) (hlen : bs.length ≤ 1000000000) : Ret Tryz.prog 66 #[.pointer (some ⟨D.bd, 0, none⟩)] w fun r w' => r = .string ⟨bs.toArray⟩ ∧ Fr (De 124 5 D (bs)).foot w w' := by
 have hS := Ow hD
 obtain ⟨B, us, bf⟩ := D
 obtain ⟨g, cp, rfl, hcp⟩ : ∃ g cp, bf = .slice (some ⟨g, 0, none⟩) bs.length cp ∧ cp ≠ 0 := by
   have h0 : 0 < bs.length := List.length_pos_iff.2 hne
   obtain ⟨_, ⟨rfl, hn⟩ | ⟨g, cap, cur, rfl, _, _, hc, _⟩⟩ := Ra hD
   · omega
   exact ⟨g, cap, rfl, by omega⟩
 replace hS : Sep _ w w [Cq B #[(⟨B, us, .slice (some ⟨g, 0, none⟩) bs.length cp⟩ : Wri).ad, .slice (some ⟨g, 0, none⟩) bs.length cp] 124, Ai 5 1 Qd (.slice (some ⟨g, 0, none⟩) bs.length cp) bs] := hS
 refine cS (n := 14) (m := 9) func66 rfl rfl rfl ?_
 refine CW.S (LW.C (LW.S ?_))
 refine Ek 10 kQ kQ kQ kQ kQ rfl rfl ?_
 refine HW.pp (.move (.t rfl)) ?_
 refine HW.pp (.nilCheck (.t rfl)) ?_
 refine HW.pp (.fA 1 underlying122 rfl sizeOf120 rfl) ?_
 refine HW.pp (.ld isAgg120 rfl ((hS.blk 0 rfl).Ak rfl)) ?_
 refine HW.pp (.dV hcp (.t rfl)) ?_
 refine HW.pp (.move (.t rfl)) ?_
 refine HW.pp (.nilCheck (.t rfl)) ?_
 refine HW.pp (.fA 1 underlying122 rfl sizeOf120 rfl) ?_
 refine HW.pp (.ld isAgg120 rfl ((hS.blk 0 rfl).Ak rfl)) ?_
 refine HW.pp (.Dq underlying120 (.t rfl)) ?_
 refine HW.nil ?_
 intro w1 uw1
 have zw1 := uw1.size
 replace hS := hS.up uw1
 refine Ah (.dW underlying175 kQ (.t rfl) (.t rfl) (hS.own 1 rfl) hne oQ) rfl ?_
 rintro _ w2 ⟨rfl, hF⟩
 refine LW.A rfl (LW.T (CW.ret ?_))
 refine Af rfl rfl ⟨_, rfl, ?_⟩
 exact ⟨rfl, hS.fr.next hF (fun i hi => .inl (Y6 (.inr hi)))⟩
theorem Me (b : Nat) (t : ByteArray) (D : Wri) (bs : List UInt8) (w : World) (hD : (De 124 5 D (bs)).holds w) (hb : D.bd = b) (hlen : bs.length + t.size ≤ 140737488355328) : Ret Tryz.prog 117 #[.pointer (some ⟨b, 0, none⟩), .string t] w fun r w' => r = .tuple #[vi (t.size : Int), .nilIface] ∧ ∃ bf, Stp (De 124 5 D (bs)) (De 124 5 ⟨b, true, bf⟩ (bs ++ t.data.toList)) w w' := by subst hb; exact P2 t D bs w hD hlen
theorem mC (ad : Option Addr) (cp : Nat) (l : List Int) (D : Wri) (bs : List UInt8) (w : World) (hD : (De 124 5 D (bs)).holds w) (hE0 : Els w ad 1 A8 l) (hne : ∀ B o, ad = some ⟨B, o, none⟩ → ¬ (De 124 5 D (bs)).foot B) (hlen : bs.length + 10 * l.length ≤ 1000000000) : Ret Tryz.prog 62 #[.pointer (some ⟨D.bd, 0, none⟩), .slice ad l.length cp] w fun r w' => r = .tuple #[] ∧ ∃ D', D'.bd = D.bd ∧ Stp (De 124 5 D (bs)) (De 124 5 D' (bs ++ Bu l)) w w' := by
 obtain ⟨w0, rfl⟩ : ∃ w0, w0 = w := ⟨_, rfl⟩
 have hS := Sep.cons hD (fun _ h => h) (Sep.start _ _) (by simp)
 refine cS (n := 25) (m := 9) func62 rfl rfl rfl ?_
 refine CW.S (LW.M rfl ?_)
 refine LW.pp (.Dq underlying30 (.t rfl)) ?_
 refine LW.pp (.move (.const _)) ?_
 refine LW.T (CW.block ?_)
 refine Am (σ := Nat × Wri) (fun s w => (s.1 ≤ l.length) ∧ (s.2.bd = D.bd) ∧ (Sep (De 124 5 D (bs)).foot w0 w [De 124 5 s.2 (bs ++ Bu (l.take s.1))])) (fun s => [(10, .eq (vi (s.1 : Int)))]) ([(0, .eq _), (8, .eq _), (9, .eq _)]) (fun s => l.length - s.1) (0, D) ?_ ⟨rfl, rfl, rfl, rfl, trivial⟩ ?_
 ·exact ⟨Nat.zero_le _, rfl, by simpa [Bu] using hS⟩
 rintro ⟨k, D1⟩ w1 ⟨hkk, hbd, hS⟩
 dsimp only at hkk hbd hS
 refine CW.S ?_
 refine LW.pp (.lss (.t rfl) (.t rfl)) ?_
 refine LW.S ?_
 refine CW.cond (.t rfl) (fun h11 => ?_) (fun h11 => ?_)
 ·replace h11 := dQ h11
  refine CW.skip (KW.then (CW.seq (CW.block (CW.seq ?_))))
  have hE := hE0.fr hS.fr hne
  have hkl : k < l.length := by simp at h11; omega
  refine CW.region ?_
  obtain ⟨x, hx⟩ := Ac (xs := l) (i := k) oQ
  obtain ⟨Bx, ox, ax, hcx⟩ := hE _ x hx
  refine LW.pp (.An underlying30 sizeOf3 (.t rfl) (.t rfl) oQ ax) ?_
  refine LW.pp (.ld isAgg3 rfl (hcx.nth (j := 0) rfl)) ?_
  refine LW.A rfl (LW.S (CW.region (LW.M rfl ?_)))
  refine LW.K (eC (.o rfl) (oD)) rfl (Rb x _) ?_
  rintro _ w2 ⟨rfl, uw2⟩
  have zw2 := uw2.size
  replace hS := hS.up uw2
  refine LW.M rfl (LW.pp (.extract (.t rfl) rfl) (LW.pp (.extract (.t rfl) rfl) (LW.A rfl (LW.A rfl (LW.T (CW.region (LW.M rfl ?_)))))))
  refine LW.pp (.nilCheck (.t rfl)) ?_
  refine LW.pp (.fA 0 underlying124 rfl sizeOf122 rfl) ?_
  refine LW.M rfl ?_
  refine LW.K (eC (.u rfl rfl) (oE)) rfl (Me D.bd _ D1 _ _ (hS.get 0 rfl) hbd (by rw [Rc, List.length_append]; have := Np x; have := Gy (l.take k); have := List.length_take_le k l; omega)) ?_
  rintro _ w3 ⟨rfl, bf, uw3⟩
  have zw3 := uw3.fr.size
  replace hS := hS.Dj 0 rfl uw3
  change Wx.Sep _ _ _ [_] at hS
  refine LW.nil (KW.inBlock (KW.then (CW.region ?_)))
  refine LW.pp (.inc (.t rfl) oQ) ?_
  refine LW.M rfl (LW.nil (KW.round ?_))
  exact ⟨(k + 1, ⟨D.bd, true, bf⟩), ⟨by omega, rfl, by rw [Y3 hx, ← List.append_assoc]; exact hS⟩, ⟨rfl, rfl, rfl, rfl, trivial⟩, by first | omega | (dsimp only; omega)⟩
 replace h11 := dQ h11
 refine CW.exit (Aa (Aa (Ad ?_)))
 refine Ci rfl ⟨_, rfl, ?_⟩
 have hk2 : l.take k = l := List.take_of_length_le (by simp at h11; omega)
 rw [hk2] at hS
 exact ⟨rfl, D1, hbd, ⟨hS.fr, hS.get 0 rfl, hS.foot 0 rfl⟩⟩
end Go.Proofs.YtmimclgihlhaeaaGreat
namespace Go.Wx
theorem mD (k : Int) : ∀ x ∈ Em k, Ev x.off = true := by
 intro x hx
 have h : ∀ l ∈ Q7, ∀ y ∈ l, Ev y.off = true := by decide
 unfold Em at hx
 rw [List.getD_eq_getElem?_getD] at hx
 cases hl : Q7[k.toNat]? with
 | none => rw [hl] at hx; simp at hx
 | some l => rw [hl] at hx; exact h l (List.mem_of_getElem? hl) x (by simpa using hx)
theorem Wm (k : Int) : (Em k).length ≤ 16 := by
 have h : ∀ l ∈ Q7, l.length ≤ 16 := by decide
 unfold Em
 rw [List.getD_eq_getElem?_getD]
 cases hl : Q7[k.toNat]? with
 | none => simp
 | some l => exact h l (List.mem_of_getElem? hl)
def Eb (fs : List Fld) (f : Fact) : List Int := fs.map fun x => Gb f x.off
theorem J6 (fs : List Fld) (f : Fact) : (Eb fs f).length = fs.length := by simp [Eb]
theorem K5 {fs : List Fld} {f : Fact} {k : Nat} {x : Fld} (h : fs[k]? = some x) : (Eb fs f).take (k + 1) = (Eb fs f).take k ++ [Gb f x.off] := A4 (by simp [Eb, h])
def Jh (b : Bool) : Int := if b then 1 else 0
def Re (f : Fact) : List Int := f.Kind :: Eb (Em f.Kind) f
def A6 (f : Fact) : List UInt8 := if A5 f then Bu (Re f) else []
def Ox (f : Fact) : List Int := [f.Kind, f.Version, f.Day, Jh f.Gone] ++ Eb (fieldsOf f.Kind) f
def Hn (f : Fact) : List UInt8 := Bu (Ox f) ++ if F6 f.Kind then Y5 f.Text.data.toList else []
def Rf (f : Fact) : List UInt8 := if A5 f then Hn f else []
def D9 (a b : Fact) : Bool := A5 a && A5 b && (A6 a == A6 b) && (decide (b.Version < a.Version) || (decide (a.Version = b.Version) && decide (0 < Go.Lib.compareBytes (Hn a) (Hn b))))
theorem Ep {f : Fact} (h : A5 f = true) : 1 ≤ f.Kind ∧ f.Kind ≤ 11 := by
 unfold A5 at h
 simp only [Bool.and_eq_true, decide_eq_true_eq] at h
 exact h.1
theorem Lu {f : Fact} (h : A5 f = true) : preB f = false := by
 unfold A5 at h
 simp only [Bool.and_eq_true] at h
 have := h.2.1
 simp only [Bool.not_eq_true', Bool.or_eq_false_iff] at this
 exact this.1
theorem Ia {f : Fact} (h : A5 f = true) : f.Text.size ≤ 8192 := by
 have := Lu h
 simp only [preB, Bool.or_eq_false_iff, decide_eq_false_iff_not] at this
 omega
theorem mE {f : Fact} (h : A5 f = true) : Bu (Re f) ≠ [] := by
 have hk := Ep h
 intro e
 unfold Re Bu at e
 rw [List.flatMap_cons, List.append_eq_nil_iff] at e
 exact bB (by unfold Ov; omega) e.1
theorem bG {f : Fact} (h : A5 f = true) : Hn f ≠ [] := by
 have hk := Ep h
 intro e
 unfold Hn Ox Bu at e
 rw [List.append_eq_nil_iff, List.cons_append, List.flatMap_cons, List.append_eq_nil_iff] at e
 exact bB (by unfold Ov; omega) e.1.1
end Go.Wx
namespace Go.Proofs.YtmimclgihlhaeaaGreat
open Go.Proofs.Tryz
open Go.Wx Go.RowKit
theorem iD (b : Nat) (ad : Option Addr) (cp : Nat) (l : List Int) (D : Wri) (bs : List UInt8) (w : World) (hD : (De 124 5 D (bs)).holds w) (hb : D.bd = b) (hE0 : Els w ad 1 A8 l) (hne : ∀ B o, ad = some ⟨B, o, none⟩ → ¬ (De 124 5 D (bs)).foot B) (hlen : bs.length + 10 * l.length ≤ 1000000000) : Ret Tryz.prog 62 #[.pointer (some ⟨b, 0, none⟩), .slice ad l.length cp] w fun r w' => r = .tuple #[] ∧ ∃ D', D'.bd = b ∧ Stp (De 124 5 D (bs)) (De 124 5 D' (bs ++ Bu l)) w w' := by subst hb; exact mC ad cp l D bs w hD hE0 hne hlen
theorem Rg (b : Nat) (D : Wri) (bs : List UInt8) (w : World) (hD : (De 124 5 D (bs)).holds w) (hb : D.bd = b) (hne : bs ≠ []) (hlen : bs.length ≤ 1000000000) : Ret Tryz.prog 66 #[.pointer (some ⟨b, 0, none⟩)] w fun r w' => r = .string ⟨bs.toArray⟩ ∧ Fr (De 124 5 D (bs)).foot w w' := by subst hb; exact Za D bs w hD hne hlen
theorem iE (b : Bool) (w : World) : Ret Tryz.prog 139 #[.bool b] w fun r w' => r = vi (Jh b) ∧ Up w w' := by
 have hW := Up.refl w
 refine cS (n := 4) (m := 9) func139 rfl rfl rfl ?_
 refine CW.S (LW.C (LW.S (CW.S (LW.M rfl (LW.T ?_)))))
 refine CW.cond (.t rfl) (fun h3 => ?_) (fun h3 => ?_)
 ·replace h3 := dQ h3
  refine CW.S (LW.C (LW.T (CW.ret (Ae ?_))))
  refine Af rfl rfl ⟨_, rfl, ?_⟩
  refine ⟨?_, hW⟩
  simp [Jh, h3]
 replace h3 := dQ h3
 refine CW.skip (KW.then (CW.S (LW.C (LW.T (CW.ret ?_)))))
 refine Af rfl rfl ⟨_, rfl, ?_⟩
 refine ⟨?_, hW⟩
 simp [Jh, h3]
theorem Pn (f : Fact) (ad : Option Addr) (k cp : Nat) (w : World) : Ret Tryz.prog 64 #[.agg f.cells, .slice ad k cp] w fun r w' => (∃ Ba Bb, r = .func (.func 118) #[] #[.pointer (some ⟨Ba, 0, none⟩), .pointer (some ⟨Bb, 0, none⟩)] ∧ Blk w' Ba #[.slice ad k cp] 128 ∧ Blk w' Bb f.cells 36) ∧ Up w w' := by
 have hW := Up.refl w
 refine cS (n := 6) (m := 9) func64 rfl rfl rfl ?_
 refine CW.S ?_
 refine Ah (.Eu (.t rfl)) rfl ?_
 rintro _ w1 ⟨B2, rfl, NB2⟩
 have eB2 := NB2.at_
 have zB2 := NB2.size
 replace hW := hW.up NB2.up
 have hB2 := NB2.blk
 refine Ah (.Mi (.t rfl) rfl) rfl ?_
 rintro _ w2 ⟨B3, rfl, NB3⟩
 have eB3 := NB3.at_
 have zB3 := NB3.size
 replace hW := hW.up NB3.up
 replace hB2 := hB2.up NB3.up
 have hB3 := NB3.blk
 refine LW.C (LW.S (CW.region ?_))
 refine LW.pp (.makeFunc (.cons (.t rfl) (.cons (.t rfl) .nil))) ?_
 refine LW.A rfl (LW.T (CW.ret ?_))
 refine Af rfl rfl ⟨_, rfl, ?_⟩
 exact ⟨⟨_, _, rfl, hB3, hB2⟩, hW⟩
theorem Ut (X Y : Nat → Prop) (B3 B2 : Nat) (ad : Option Addr) (cp : Nat) (l : List Fld) (f : Fact) (w : World) (hEX : ∀ B o, ad = some ⟨B, o, none⟩ → ¬ X B) (hQX : ¬ X B3) (hFX : ¬ X B2) (hQ0 : Blk w B3 #[.slice ad l.length cp] 128) (hF0 : Blk w B2 f.cells 36) (hE0 : Els w ad 3 Fld.cells l) (hlen : l.length ≤ 1000) (hok : ∀ x ∈ l, Ev x.off = true) :
   IterS Tryz.prog 118 #[.pointer (some ⟨B3, 0, none⟩), .pointer (some ⟨B2, 0, none⟩)] A8 X Y (fun ys => ys = Eb l f) (fun pre => pre <+: Eb l f) (Eb l f).length w := by
 refine IterS.of ?_
 intro lp J Jx w0 hUw _ hY hJ
 obtain ⟨Bd, hBd⟩ : ∃ Bd, Bd = w0.heap.size := ⟨_, rfl⟩
 rw [← hBd] at hJ hY
 clear hBd
 have hQ := hQ0.up hUw
 have hF := hF0.up hUw
 have hE := Els.up hE0 hUw
 refine cS (n := 21) (m := 9) func118 rfl rfl rfl ?_
 refine CW.S ?_
 refine LW.pp (.ld isAgg128 rfl (hQ.Ak rfl)) ?_
 refine LW.pp (.Dq underlying128 (.t rfl)) ?_
 refine LW.pp (.move (.const _)) ?_
 refine LW.T (CW.block ?_)
 refine CW.loop (σ := Nat) (fun s w => s ≤ l.length ∧ Jw Bd J ((Eb l f).take s) w ∧ Els w ad 3 Fld.cells l ∧ Blk w B3 #[.slice ad l.length cp] 128 ∧ Blk w B2 f.cells 36) (fun s => [(0, .eq (.func (.yield lp) #[] #[])), (1, .eq (.pointer (some ⟨B3, 0, none⟩))), (2, .eq (.pointer (some ⟨B2, 0, none⟩))), (6, .eq (.slice ad l.length cp)), (7, .eq (vi (l.length : Int))), (8, .eq (vi (s : Int)))]) (fun s => l.length - s) 0 ?_ ?_ ?_
 ·exact ⟨Nat.zero_le _, hJ, hE, hQ, hF⟩
 ·exact ⟨rfl, rfl, rfl, rfl, rfl, rfl, trivial⟩
 rintro k w1 ⟨hk, hJ, hE, hQ, hF⟩
 refine CW.S ?_
 refine LW.pp (.lss (.t rfl) (.t rfl)) ?_
 refine LW.S ?_
 refine CW.cond (.t rfl) (fun h9 => ?_) (fun h9 => ?_)
 ·replace h9 := dQ h9
  refine CW.skip (KW.then (CW.seq (CW.block (CW.seq ?_))))
  have hkl : k < l.length := by simp at h9; omega
  refine CW.region ?_
  obtain ⟨x, hx⟩ := Ac (xs := l) (i := k) oQ
  obtain ⟨Bx, ox, ax, hcx⟩ := hE _ x hx
  refine LW.pp (.An underlying128 sizeOf163 (.t rfl) (.t rfl) oQ ax) ?_
  refine LW.pp (.la isAgg163 sizeOf163 rfl (hcx)) ?_
  refine Ah (.A7 zeroValue163) rfl ?_
  rintro _ w2 ⟨B5, rfl, MB5⟩
  refine LW.E (.A3 sizeOf163 rfl (.t rfl) (.t rfl) (Fld.one _) MB5.blk rfl) ?_
  intro w3 LB5
  have NB5 := MB5.set LB5
  clear LB5 MB5
  have eB5 := NB5.at_
  have zB5 := NB5.size
  replace hJ := hJ.up NB5.up
  replace hE := hE.up NB5.up
  replace hQ := hQ.up NB5.up
  replace hF := hF.up NB5.up
  replace hcx := hcx.up NB5.up
  have hB5 := NB5.blk
  refine LW.S ?_
  have hox := hok x (List.mem_of_getElem? hx)
  refine CW.region (LW.M rfl ?_)
  refine LW.pp (.fA 0 underlying163 rfl sizeOf161 rfl) ?_
  refine LW.pp (.ld isAgg161 rfl (hB5.Ak rfl)) ?_
  refine LW.K (Cz (.t rfl) (.cons (.t rfl) .nil) (gS x.off hox)) rfl (aX x.off _ _ hox) ?_
  rintro _ w4 ⟨rfl, uw4⟩
  have zw4 := uw4.size
  replace hJ := hJ.up uw4
  replace hE := hE.up uw4
  replace hQ := hQ.up uw4
  replace hF := hF.up uw4
  replace hcx := hcx.up uw4
  replace hB5 := hB5.up uw4
  refine LW.pp (.nilCheck (.t rfl)) ?_
  refine LW.pp (.ld isAgg3 rfl (hF.Ak (Om hox))) ?_
  refine LW.y (.t rfl) (.cons (.t rfl) .nil) rfl rfl (hY _ (Gb f x.off) _ hJ (by rw [List.length_take, J6]; omega)) ?_
  rintro _ w5 ⟨y, rfl, hcase⟩
  refine LW.pp (.not (.t rfl)) ?_
  refine LW.T ?_
  refine CW.cond (.t rfl) (fun h19 => ?_) (fun h19 => ?_)
  ·replace h19 := dQ h19
   have hy : y = false := by simpa using h19
   subst hy
   obtain ⟨_, hJx⟩ := hcase.resolve_left (by simp)
   refine CW.ret (Ao (Ae (Ae (Ao ?_))))
   refine G1 rfl ⟨_, rfl, ?_⟩
   first | exact .inl ⟨_, rfl, by rw [hkk, ← J6 l f, List.take_length] at hJ; exact hJ.j⟩ | exact .inr ⟨_, by rw [← K5 hx]; exact List.take_prefix _ _, hJx⟩
  replace h19 := dQ h19
  have hy : y = true := by simpa using h19
  subst hy
  obtain ⟨_, hJ2, hN⟩ := hcase.resolve_right (by simp)
  replace hE := hE.kx hN hEX
  replace hQ := hQ.kx hN hQX
  replace hF := hF.kx hN hFX
  rw [← K5 hx] at hJ2
  refine CW.skip (KW.inBlock (KW.then (CW.region ?_)))
  refine LW.pp (.inc (.t rfl) oQ) ?_
  refine LW.M rfl (LW.nil (KW.round ?_))
  exact ⟨k + 1, ⟨by omega, hJ2, hE, hQ, hF⟩, ⟨rfl, rfl, rfl, rfl, rfl, rfl, trivial⟩, by omega⟩
 replace h9 := dQ h9
 have hkk : k = l.length := by simp at h9; omega
 refine CW.exit (Aa (Aa (Ad ?_)))
 refine Ci rfl ⟨_, rfl, ?_⟩
 first | exact .inl ⟨_, rfl, by rw [hkk, ← J6 l f, List.take_length] at hJ; exact hJ.j⟩ | exact .inr ⟨_, by rw [← K5 hx]; exact List.take_prefix _ _, hJx⟩
end Go.Proofs.YtmimclgihlhaeaaGreat
namespace Go.Proofs.YtmimclgihlhaeaaGreat
open Go.Proofs.Tryz
open Go.Wx Go.RowKit
theorem Zb (gf : Nat) (lb : Array Go.Value) (Hc : List Int) (Sp : List Int → Prop) (D : Wri) (bs : List UInt8) (w : World) (hD : (De 124 5 D (bs)).holds w) (en : ∀ args w, (callFunc gf args).run Tryz.prog w = .ok (.enter gf args) w) (hit : ∀ W (X : Nat → Prop), Up w W → (∀ i, X i → (De 124 5 D (bs)).foot i ∨ w.heap.size ≤ i) → IterS Tryz.prog gf lb A8 X (fun _ => False) (fun ys => ys = Hc) Sp Hc.length W) (hlen : bs.length + 10 * Hc.length ≤ 1000000) : Ret Tryz.prog 63 #[.pointer (some ⟨D.bd, 0, none⟩), .func (.func gf) #[] lb] w fun r w' => r = .tuple #[] ∧ ∃ D', D'.bd = D.bd ∧ Stp (De 124 5 D (bs)) (De 124 5 D' (bs ++ Bu Hc)) w w' := by
 have hW := Up.refl w
 obtain ⟨w0, rfl⟩ : ∃ w0, w0 = w := ⟨_, rfl⟩
 have hU0 : Stp (De 124 5 D (bs)) (De 124 5 D (bs)) w0 w0 := Stp.refl hD
 refine Hj (n := 11) func63 rfl rfl rfl ?_
 refine CW.S ?_
 refine Ah (.Mi (.t rfl) rfl) rfl ?_
 rintro _ w1 ⟨B2, rfl, NB2⟩
 have eB2 := NB2.at_
 have zB2 := NB2.size
 replace hW := hW.up NB2.up
 replace hU0 := hU0.up NB2.up
 have hB2 := NB2.blk
 refine LW.S (CW.region (LW.M rfl (LW.T (CW.block ?_))))
 obtain ⟨bq, hbq⟩ : ∃ bq, bq = w1.heap.size := ⟨_, rfl⟩
 refine CW.rangeFunc (fun i => (De 124 5 D (bs)).foot i ∨ bq ≤ i) (fun _ => False) (fun pre W => Sz bq W ∧ ∃ D1 : Wri, D1.bd = D.bd ∧ Blk W B2 #[.pointer (some ⟨D.bd, 0, none⟩)] 118 ∧ Stp (De 124 5 D (bs)) (De 124 5 D1 (bs ++ Bu pre)) w1 W) (fun c pre W => Sz bq W ∧ False) (fun x a' W => Ag 11 [] ([(4, .eq (vi x)), (2, .eq (.pointer (some ⟨B2, 0, none⟩)))]) a' W) (.t rfl) en (hit _ _ hW (fun i hi => hi.imp id (fun h => by omega))) (fun _ => rfl) rfl ?_ ?_ ?_ ?_ ?_ ?_ ?_ ?_
 ·rw [← hbq]
  intro pre W W' row hs hg hr
  obtain ⟨hZ, D1, hbd, hB2, hUp⟩ := hs
  exact ⟨hZ.ko (Ko.grown hg hr), D1, hbd, hB2.ko (Ko.grown hg hr), hUp.ko (Ko.grown hg hr) oQ⟩
 ·rw [← hbq]
  intro c pre W W' row hs hg hr
  obtain ⟨hZ, hF⟩ := hs
  exact ⟨hZ.ko (Ko.grown hg hr), hF⟩
 ·intro x a' u W W' row hs hg hr
  exact hs.world rfl _
 ·exact ⟨Nat.le_of_eq hbq, _, rfl, hB2, by simpa [Bu] using Stp.refl hU0.holds⟩
 ·rw [← hbq]
  intro lp pre x w2 K hs hk a ha
  obtain ⟨hZ, D1, hbd, hB2, hUp⟩ := hs
  have zq := hZ.le
  have hK := Kf.refl bq w2
  have hN := Kx.refl bq (fun i => (De 124 5 D (bs)).foot i ∨ bq ≤ i) (fun _ => False) w2
  revert a
  refine Mm (p := 6) rfl ?_
  refine CW.region (LW.A rfl (LW.nil ?_))
  exact fun a ha => hk a _ hK hN ⟨hZ, D1, hbd, hB2, hUp⟩ (ha.sub ⟨rfl, rfl, trivial⟩)
 ·rw [← hbq]
  intro lp pre x a' w3 hs hx hlt
  obtain ⟨hZ, D1, hbd, hB2, hUp⟩ := hs
  have ha := hx
  have zq := hZ.le
  have hK := Kf.refl bq w3
  have hN := Kx.refl bq (fun i => (De 124 5 D (bs)).foot i ∨ bq ≤ i) (fun _ => False) w3
  refine (show CW (some lp) 8 _ 11 [] _ (ownPostG bq (Kx bq (fun i => (De 124 5 D (bs)).foot i ∨ bq ≤ i) (fun _ => False)) _ _ (pre ++ [x]) w3) ([(4, .eq (vi x)), (2, .eq (.pointer (some ⟨B2, 0, none⟩)))]) w3 from ?_) a' ha
  have zw1 := hUp.fr.size
  refine CW.block (CW.region ?_)
  refine LW.pp (.ld isAgg118 rfl (hB2.Ak rfl)) ?_
  refine LW.M rfl ?_
  refine Ah (.buildSlice (xs := [x]) (enc := A8) (mk := vi) underlying30 sizeOf3 zeroValue3 rfl cQ (fun _ => rfl) (fun _ => rfl) (.cons (.t rfl) .nil) rfl) rfl ?_
  rintro _ w4 ⟨B9, cB9, rfl, NB9, yB9, xB9⟩
  have eB9 := NB9.at_
  have zB9 := NB9.size
  replace hZ := hZ.up NB9.up
  replace hB2 := hB2.up NB9.up
  replace hUp := hUp.up NB9.up
  replace hK := hK.up NB9.up
  replace hN := hN.up NB9.up
  have hB9 := NB9.blk
  have hE9 := xB9
  refine LW.K (eC (.u rfl rfl) (pC)) rfl (iD D.bd _ _ [x] D1 _ _ hUp.holds hbd hE9 (fun B o e => by cases e; exact Ir hUp.holds hB9 rfl rfl) (by rw [List.length_append]; have := Gy pre; simp; omega)) ?_
  rintro _ w5 ⟨rfl, D2, hb2, hP2⟩
  have hWc := Y7 hUp.holds
  have hXs : ∀ i, (De 124 5 D1 (bs ++ Bu pre)).foot i → ((De 124 5 D (bs)).foot i ∨ bq ≤ i) := fun i hi => (hUp.sub i hi).imp id (fun h => by omega)
  replace hN := hN.trans (Kx.fr (bq := bq) (Y := fun _ => False) hP2.fr hXs hWc)
  replace hK := hK.trans (Kf.fr (bq := bq) hP2.fr hWc)
  replace hB2 := hB2.fr hP2.fr (Ir hUp.holds hB2 rfl rfl)
  replace hUp := hUp.trans hP2
  rw [List.append_assoc, dR, ← Y4] at hUp
  have hZ2 : Sz bq w5 := Nat.le_trans hZ.le hP2.fr.size
  refine LW.nil (KW.inBlock ?_)
  exact fun a ha => ⟨hK, hN, hZ2, D2, hb2, hB2, hUp⟩
 ·intro D ys w6 hDb hS hs hD
  rw [← hbq] at hDb
  obtain ⟨hZ, D1, hbd, hB2, hUp⟩ := hs
  replace hD : Ob w6 D (.deferred (some [])) := hD
  have zD := hD.lt
  have zq := hZ.le
  refine KW.inBlock ?_
  refine Oj hD rfl ?_
  replace hZ := hZ.ko (Ko.putObj (.deferred none) hD rfl hDb)
  replace hB2 := hB2.ko (Ko.putObj (.deferred none) hD rfl hDb)
  replace hUp := hUp.ko (Ko.putObj (.deferred none) hD rfl hDb) oQ
  refine G1 rfl ⟨_, rfl, ?_⟩
  subst hS
  exact ⟨rfl, D1, hbd, hU0.trans hUp⟩
 intro D c pre w7 hDb hpre hs hD
 rw [← hbq] at hDb
 obtain ⟨hZ, hF⟩ := hs
 replace hD : Ob w7 D (.deferred (some [])) := hD
 have zD := hD.lt
 have zq := hZ.le
 exact hF.elim
end Go.Proofs.YtmimclgihlhaeaaGreat
namespace Go.Wx
theorem Tl (a b : List Int) : Bu (a ++ b) = Bu a ++ Bu b := by simp [Bu]
theorem mF (f : Fact) : ([] ++ Bu [f.Kind]).length + 10 * (Em f.Kind).length ≤ 10000 := by
 have h1 := Wm f.Kind
 have h2 := Gy [f.Kind]
 rw [List.nil_append]
 simp only [List.length_cons, List.length_nil] at h2
 omega
theorem mG (f : Fact) : (Bu (Re f)).length ≤ 1000000000 := by
 have h1 := Wm f.Kind
 have h2 := Gy (Re f)
 have h3 : (Re f).length = 1 + (Em f.Kind).length := by simp [Re, Eb]; omega
 omega
end Go.Wx
namespace Go.Proofs.YtmimclgihlhaeaaGreat
open Go.Proofs.Tryz
open Go.Wx Go.RowKit
theorem Tm (b : Nat) (Ba Bb : Nat) (ad : Option Addr) (cp : Nat) (l : List Fld) (f : Fact) (D : Wri) (bs : List UInt8) (w : World) (hD : (De 124 5 D (bs)).holds w) (hb : D.bd = b) (hQ : Blk w Ba #[.slice ad l.length cp] 128) (hF : Blk w Bb f.cells 36) (hE : Els w ad 3 Fld.cells l) (hT : ∀ B o, ad = some ⟨B, o, none⟩ → B < w.heap.size ∧ ¬ (De 124 5 D (bs)).foot B) (hlen : bs.length + 10 * l.length ≤ 10000) (hok : ∀ x ∈ l, Ev x.off = true) :
   Ret Tryz.prog 63 #[.pointer (some ⟨b, 0, none⟩), .func (.func 118) #[] #[.pointer (some ⟨Ba, 0, none⟩), .pointer (some ⟨Bb, 0, none⟩)]] w fun r w' => r = .tuple #[] ∧ ∃ D', D'.bd = b ∧ Stp (De 124 5 D (bs)) (De 124 5 D' (bs ++ Bu (Eb l f))) w w' := by
 subst hb
 refine Zb 118 _ (Eb l f) (fun pre => pre <+: Eb l f) D bs w hD rX ?_ (by rw [J6]; omega)
 intro W X hU hX
 refine Ut X (fun _ => False) Ba Bb ad cp l f W (fun B o e hx => ?_) (fun hx => ?_) (fun hx => ?_) (hQ.up hU) (hF.up hU) (Els.up hE hU) oQ hok
 · obtain ⟨h1, h2⟩ := hT B o e
   exact (hX B hx).elim h2 (fun h => by omega)
 · have := hQ.lt
   exact (hX Ba hx).elim (Ir hD hQ rfl rfl) (fun h => by omega)
 have := hF.lt
 exact (hX Bb hx).elim (Ir hD hF rfl rfl) (fun h => by omega)
theorem Uu (f : Fact) (w : World) : Ret Tryz.prog 31 #[.agg f.cells] w fun r w' => r = .string ⟨(A6 f).toArray⟩ ∧ Up w w' := by
 obtain ⟨w0, rfl⟩ : ∃ w0, w0 = w := ⟨_, rfl⟩
 have hS := Sep.start no w0
 refine cS (n := 27) (m := 9) func31 rfl rfl rfl ?_
 refine CW.S ?_
 refine Ah (.Eu (.t rfl)) rfl ?_
 rintro _ w1 ⟨B1, rfl, NB1⟩
 have eB1 := NB1.at_
 have zB1 := NB1.size
 replace hS := hS.C7 NB1
 change Wx.Sep _ _ _ [_] at hS
 refine LW.C (LW.S (CW.seq ?_))
 cases hq1 : A5 f with
 | true =>
  have hkn := Ep hq1
  refine CW.region ?_
  refine LW.pp (.la isAgg36 sizeOf36 rfl ((hS.blk 0 rfl).agg)) ?_
  refine LW.K (eC (.o rfl) (lM)) rfl (Lt f _) ?_
  rintro _ w2 ⟨rfl, uw2⟩
  have zw2 := uw2.size
  replace hS := hS.up uw2
  refine LW.pp (.fa (PEv.not (.t rfl)) (by rw [hq1]; rfl)) ?_
  refine LW.T ?_
  refine CW.cond_false (.t rfl) ?_
  refine CW.skip (KW.then (CW.S ?_))
  refine LW.pp (.build (cs := #[.pointer none, .slice none 0 0]) underlying124 zeroValue124 K3 .nil rfl) ?_
  refine Ah (.Eu (.t rfl)) rfl ?_
  rintro _ w3 ⟨B8, rfl, NB8⟩
  have eB8 := NB8.at_
  have zB8 := NB8.size
  replace hS := hS.C7 NB8
  change Wx.Sep _ _ _ [_, _] at hS
  refine LW.A rfl (LW.S ?_)
  replace hS := bD (Bs := [_]) (e := 5) hS
  change Wx.Sep _ _ _ [_, _] at hS
  have hA0 := hS.get 1 rfl
  refine CW.region (LW.M rfl ?_)
  refine LW.pp (.fA 0 underlying36 rfl sizeOf3 rfl) ?_
  refine LW.pp (.ld isAgg3 rfl ((hS.blk 0 rfl).Ak rfl)) ?_
  refine Ah (.buildSlice (xs := [f.Kind]) (enc := A8) (mk := vi) underlying30 sizeOf3 zeroValue3 rfl cQ (fun _ => rfl) (fun _ => rfl) (.cons (.t rfl) .nil) rfl) rfl ?_
  rintro _ w4 ⟨B12, cB12, rfl, NB12, yB12, xB12⟩
  have eB12 := NB12.at_
  have zB12 := NB12.size
  replace hS := hS.up NB12.up
  have hE12 := xB12
  refine LW.K (eC (.u rfl rfl) (pC)) rfl (iD B8 _ _ [f.Kind] ⟨B8, false, .slice none 0 0⟩ _ _ (hS.get 1 rfl) rfl hE12 (fun B o e => by cases e; intro hf; have := Asr.lt _ _ hA0 _ hf; omega) (by simp)) ?_
  rintro _ w5 ⟨rfl, D1, hb1, uw5⟩
  have zw5 := uw5.fr.size
  replace hS := hS.Dj 1 rfl uw5
  change Wx.Sep _ _ _ [_, _] at hS
  refine LW.S ?_
  refine Hm 8 [.eq (.pointer (some ⟨B8, 0, none⟩)), .eq (.agg f.cells), .pred ShM, .eq (.pointer (some ⟨B1, 0, none⟩)), .eq (vi f.Kind), .pred (shOf f), .pred (fun v w => SlT 163 w v 3 Fld.cells (Em f.Kind)), .pred (fun v w => ∃ Ba Bb ad cp, v = .func (.func 118) #[] #[.pointer (some ⟨Ba, 0, none⟩), .pointer (some ⟨Bb, 0, none⟩)] ∧ Blk w Ba #[.slice ad (Em f.Kind).length cp] 128 ∧ Blk w Bb f.cells 36 ∧ SlT 163 w (.slice ad (Em f.Kind).length cp) 3 Fld.cells (Em f.Kind))] [14, 21] kQ rfl kQ kQ kQ kQ kQ kQ kQ ⟨PhU.eq _, PhU.eq _, PhU.pred fun _ _ _ h u => ShM.C4 h u.C4, PhU.eq _, PhU.eq _, PhU.pred fun _ _ _ h u => ShV.C4 h u.C4, PhU.pred fun _ _ _ h u => SlT.Fu h u.Fu, PhU.pred fun _ _ _ h u => let ⟨Ba, Bb, ad, cp, e, h1, h2, h3⟩ := h; ⟨Ba, Bb, ad, cp, e, h1.up u, h2.up u, SlT.Fu h3 u.Fu⟩, trivial⟩ ?_ ?_
  ·intro W hU0
   have hU := (Up.drew w5).trans hU0
   refine aC ⟨rfl, TU.p (.move (.t rfl)) rfl⟩ ?_
   refine aC ⟨rfl, TU.p (.la isAgg36 sizeOf36 rfl (((hS.blk 0 rfl).up hU).agg)) rfl⟩ ?_
   refine aC ⟨rfl, TU.c (eC .nil (lN)) (J4 _) (fun v W1 h => let ⟨b, e, m, u⟩ := h; ⟨u, b, e, m⟩)⟩ ?_
   refine aC ⟨rfl, TU.p (.fA 0 underlying36 rfl sizeOf3 rfl) rfl⟩ ?_
   refine aC ⟨rfl, TU.p (.ld isAgg3 rfl (((hS.blk 0 rfl).up hU).Ak rfl)) rfl⟩ ?_
   refine aC ⟨rfl, TU.open (d := 16) rfl (by rintro _ ⟨b, rfl, kv, hI, hV, hK⟩; obtain ⟨⟨k0, sv⟩, hkv, e0⟩ := List.mem_map.1 ((hK f.Kind).2 hkn); cases e0; exact TU.p (.C1 (ok := false) underlying131 underlying3 (.t rfl) (.t rfl) hI hkv) (hV _ _ hkv))⟩ ?_
   refine aC ⟨rfl, TU.open (d := 19) rfl (by rintro _ ⟨v1, v2, rfl, h1, h2⟩; exact TU.p (.gX (off := 1) underlying130 rfl rfl isAgg128 (.t rfl) rfl) h2)⟩ ?_
   refine aC ⟨rfl, TU.open (d := 20) rfl (by rintro _ ⟨⟨ad, cp, rfl, hE⟩, hT⟩; exact TU.c (eC (.u rfl rfl) (rG)) (Pn f ad _ cp _) (fun v W1 h => let ⟨⟨Ba, Bb, e, h1, h2⟩, u⟩ := h; ⟨u, Ba, Bb, ad, cp, e, h1, h2, SlT.Fu ⟨⟨ad, cp, rfl, hE⟩, hT⟩ u.Fu⟩))⟩ ?_
   exact allL.nil
  intro w6 g hU0 hg
  have hU := (Up.drew w5).trans hU0
  have zw6 := hU.size
  replace hS := hS.up hU
  have e14 : g 14 = .pointer (some ⟨B8, 0, none⟩) := hg 0 _ 14 cQ rfl rfl
  obtain ⟨Ba, Bb, ad, cp2, e21, hBa, hBb, ⟨ad1, cp1, e1, hE⟩, hT⟩ := hg 7 _ 21 cQ rfl rfl
  cases e1
  change LW _ _ _ _ _ _ _ _ ((14, .eq (g 14)) :: (21, .eq (g 21)) :: _) _
  rw [e14, e21]
  refine LW.K (eC (.u rfl rfl) (rF)) rfl (Tm B8 Ba Bb ad cp2 _ f D1 _ _ (hS.get 1 rfl) hb1 hBa hBb hE (fun B o e => by obtain ⟨cs, x, hc⟩ := hT B o _ _ (by rw [e]); exact ⟨lt_of_block hc, Ir (hS.get 1 rfl) hc rfl rfl⟩) (mF f) (mD f.Kind)) ?_
  rintro _ w7 ⟨rfl, D2, hb2, uw7⟩
  have zw7 := uw7.fr.size
  replace hS := hS.Dj 1 rfl uw7
  change Wx.Sep _ _ _ [_, _] at hS
  rw [List.nil_append, ← Tl] at hS
  have hKL : [f.Kind] ++ Eb (Em f.Kind) f = Re f := rfl
  rw [hKL] at hS
  refine LW.S (CW.region (LW.M rfl ?_))
  refine LW.pp (.nilCheck (.t rfl)) ?_
  refine LW.pp (.fA 0 underlying124 rfl sizeOf122 rfl) ?_
  refine LW.K (eC (.o rfl) (pD)) rfl (Rg B8 D2 _ _ (hS.get 1 rfl) hb2 (mE hq1) (mG f)) ?_
  rintro _ w8 ⟨rfl, hF⟩
  refine LW.A rfl (LW.T (CW.ret ?_))
  refine Af rfl rfl ⟨_, rfl, ?_⟩
  rw [A6, if_pos hq1]
  exact ⟨rfl, (hS.fr.next hF (hS.foot 1 rfl)).lO (fun _ h => h)⟩
 | false =>
  refine CW.region ?_
  refine LW.pp (.la isAgg36 sizeOf36 rfl ((hS.blk 0 rfl).agg)) ?_
  refine LW.K (eC (.o rfl) (lM)) rfl (Lt f _) ?_
  rintro _ w9 ⟨rfl, uw9⟩
  have zw9 := uw9.size
  replace hS := hS.up uw9
  refine LW.pp (.tr (PEv.not (.t rfl)) (by rw [hq1]; rfl)) ?_
  refine LW.T ?_
  refine CW.cond_true (.t rfl) ?_
  refine CW.S (LW.C (LW.T (CW.ret (Ae ?_))))
  refine Af rfl rfl ⟨_, rfl, ?_⟩
  rw [A6, if_neg (by rw [hq1]; exact Bool.false_ne_true)]
  exact ⟨rfl, hS.Cu⟩
end Go.Proofs.YtmimclgihlhaeaaGreat
namespace Go.Wx
theorem bH (b : ByteArray) : ∀ (k i : Nat) (r : List UInt8), b.size - i = k → ByteArray.toList.loop b i r = r.reverse ++ b.data.toList.drop i
 | 0, i, r, h => by
   unfold ByteArray.toList.loop
   rw [if_neg oQ, List.drop_eq_nil_of_le (by rw [Array.length_toList]; have : b.data.size = b.size := rfl; omega), List.append_nil]
 | k + 1, i, r, h => by
   unfold ByteArray.toList.loop
   have hi : i < b.size := by omega
   rw [if_pos hi, bH b k (i + 1) _ (by omega)]
   have hi' : i < b.data.toList.length := by rw [Array.length_toList]; exact hi
   rw [List.drop_eq_getElem_cons hi']
   have : b.get! i = b.data.toList[i] := by
     rw [Array.getElem_toList]
     show b.data[i]! = _
     exact getElem!_pos b.data i hi
   rw [this]; simp
theorem Hw (b : ByteArray) : b.toList = b.data.toList := by
 unfold ByteArray.toList
 rw [bH b b.size 0 [] rfl]; simp
structure ElT {α : Type} (w : World) (ad : Option Addr) (T : TypeId) (k : Nat) (enc : α → Array Value) (xs : List α) : Prop where
 els : Els w ad k enc xs
 ty : ∀ B o, ad = some ⟨B, o, none⟩ → ∃ cs x, w.heap[B]? = some (Obj.cells cs T x)
theorem ElT.up {α : Type} {w w' : World} {ad : Option Addr} {T : TypeId} {k : Nat} {enc : α → Array Value} {xs : List α} (h : ElT w ad T k enc xs) (u : Up w w') : ElT w' ad T k enc xs := ⟨Els.up h.els u, fun B o e => let ⟨cs, x, hc⟩ := h.ty B o e; ⟨cs, x, (u.block (lt_of_block hc)).trans hc⟩⟩
theorem ElT.fr {α : Type} {S : Nat → Prop} {w w' : World} {ad : Option Addr} {T : TypeId} {k : Nat} {enc : α → Array Value} {xs : List α} (h : ElT w ad T k enc xs) (f : Fr S w w') (hn : ∀ B cs x, w.heap[B]? = some (Obj.cells cs T x) → ¬ S B) : ElT w' ad T k enc xs :=
 ⟨h.els.fr f (fun B o e => let ⟨cs, x, hc⟩ := h.ty B o e; hn B cs x hc), fun B o e => let ⟨cs, x, hc⟩ := h.ty B o e; ⟨cs, x, (f.block _ (lt_of_block hc) (hn B cs x hc)).trans hc⟩⟩
theorem mH (f : Fact) : ([] ++ Bu [f.Kind, f.Version, f.Day, Jh f.Gone]).length + 10 * (fieldsOf f.Kind).length ≤ 10000 := by
 have h1 := Mp f.Kind
 have h2 := Gy [f.Kind, f.Version, f.Day, Jh f.Gone]
 rw [List.nil_append]
 simp only [List.length_cons, List.length_nil] at h2
 omega
theorem iF (f : Fact) : (Bu (Ox f)).length ≤ 200 := by
 have h1 := Mp f.Kind
 have h2 := Gy (Ox f)
 have h3 : (Ox f).length = 4 + (fieldsOf f.Kind).length := by simp [Ox, Eb]; omega
 omega
theorem bI {f : Fact} (h : A5 f = true) : (Hn f).length ≤ 9000 := by
 have h1 := iF f
 have h2 := Ia h
 unfold Hn
 rw [List.length_append]
 split
 · have := Wl f.Text.data.toList
   rw [Us] at this
   omega
 simp; omega
theorem Tn {f : Fact} (h : F6 f.Kind = true) : Bu (Ox f) ++ Y5 f.Text.data.toList = Hn f := by rw [Hn, if_pos h]
theorem bJ {f : Fact} (h : F6 f.Kind = false) : Bu (Ox f) = Hn f := by rw [Hn, if_neg (by rw [h]; exact Bool.false_ne_true), List.append_nil]
def Po (f : Fact) : Int := if A5 f then 0 else 150
end Go.Wx
namespace Go.Proofs.YtmimclgihlhaeaaGreat
open Go.Proofs.Tryz
open Go.Wx Go.RowKit
theorem Rh (f : Fact) (w : World) : Ret Tryz.prog 67 #[.agg f.cells] w fun r w' => r = .tuple #[.string ⟨(Rf f).toArray⟩, vi (Po f)] ∧ Up w w' := by
 obtain ⟨w0, rfl⟩ : ∃ w0, w0 = w := ⟨_, rfl⟩
 have hS := Sep.start no w0
 refine cS (n := 52) (m := 9) func67 rfl rfl rfl ?_
 refine CW.S ?_
 refine Ah (.Eu (.t rfl)) rfl ?_
 rintro _ w1 ⟨B1, rfl, NB1⟩
 have eB1 := NB1.at_
 have zB1 := NB1.size
 replace hS := hS.C7 NB1
 change Wx.Sep _ _ _ [_] at hS
 refine LW.C (LW.C (LW.S (CW.seq ?_)))
 cases hq1 : A5 f with
 | true =>
  have hkn := Ep hq1
  refine CW.region ?_
  refine LW.pp (.la isAgg36 sizeOf36 rfl ((hS.blk 0 rfl).agg)) ?_
  refine LW.K (eC (.o rfl) (lM)) rfl (Lt f _) ?_
  rintro _ w2 ⟨rfl, uw2⟩
  have zw2 := uw2.size
  replace hS := hS.up uw2
  refine LW.pp (.fa (PEv.not (.t rfl)) (by rw [hq1]; rfl)) ?_
  refine LW.T ?_
  refine CW.cond_false (.t rfl) ?_
  refine CW.skip (KW.then (CW.seq ?_))
  have hB1T := hS.blk 0 rfl
  have hU0 := hS.Cu
  refine CW.box 6 4 5 3 4 14 #[.slice none 0 0, .slice none 0 0, .nilFunc, .bool false] [.pred ShM, .eq (.pointer (some ⟨B1, 0, none⟩)), .eq (vi f.Kind), .pred (shOf f), .pred fun v _ => ∃ B, v = .pointer (some ⟨B, 0, none⟩), .eq undef] [] zeroValue130 sizeOf130 kQ rfl kQ kQ kQ kQ kQ kQ kQ rfl rfl ⟨_, _, _, rfl⟩ _ rfl ⟨_, _, _, rfl⟩ ⟨PhT.pred fun _ _ _ h u => ShM.C4 h u, PhT.eq _ _, PhT.eq _ _, PhT.pred fun _ _ _ h u => ShV.C4 h u, PhT.pred fun _ _ _ h _ => h, PhT.eq _ _, trivial⟩ rfl (fun v W h => shOf.agg h) (fun B W => ⟨B, rfl⟩) ?_ ?_
  ·intro W hK0
   have hK := (Up.drew w2).C4.trans hK0
   have hB1W := Blk.C4 hB1T (T := 130) rfl hK
   refine aC (.inr ⟨rfl, TU.c (eC .nil (lN)) (J4 _) (fun v W1 h => let ⟨b, e, m, u⟩ := h; ⟨u, b, e, m⟩)⟩) ?_
   refine aC (.inr ⟨rfl, TU.p (.fA 0 underlying36 rfl sizeOf3 rfl) rfl⟩) ?_
   refine aC (.inr ⟨rfl, TU.p (.ld isAgg3 rfl (hB1W.Ak rfl)) rfl⟩) ?_
   refine aC (.inr ⟨rfl, TU.open (d := 11) rfl (by rintro _ ⟨b, rfl, kv, hI, hV, hK⟩; obtain ⟨⟨k0, sv⟩, hkv, e0⟩ := List.mem_map.1 ((hK f.Kind).2 hkn); cases e0; exact TU.p (.C1 (ok := false) underlying131 underlying3 (.t rfl) (.t rfl) hI hkv) (hV _ _ hkv))⟩) ?_
   refine aC (.inl (.inl rfl)) ?_
   refine aC (.inl (.inr rfl)) ?_
   exact allL.nil
  intro wT B4 g hU hBn hB4 hg
  have hUT := (Up.drew _).trans hU
  obtain ⟨v1, v2, e14, hs1, hs2⟩ := hg 3 _ 14 cQ rfl rfl
  rw [e14] at hB4
  obtain ⟨⟨ad, cp, rfl, hE1⟩, hT0⟩ := hs1
  obtain ⟨⟨ad2, cp2, rfl, hE2⟩, _⟩ := hs2
  replace hB4 : Blk wT B4 #[.slice ad (fieldsOf f.Kind).length cp, .slice ad2 (Em f.Kind).length cp2, .func (.func (Eo (Gx f.Kind))) #[] #[], .bool (F6 f.Kind)] 130 := hB4
  have hB1X := hB1T.up hUT
  replace hU0 := hU0.trans hUT
  have hB14 : B1 ≠ B4 := fun e => by have := hB1T.lt; have := (Up.drew w2).size; omega
  have zB4 : w0.heap.size ≤ B4 := by have := hS.size; have := (Up.drew w2).size; omega
  have hE0 : ElT wT ad 163 3 Fld.cells (fieldsOf f.Kind) := ⟨hE1, fun B o e => hT0 B o _ _ (by rw [e])⟩
  replace hS : Wx.Sep no w0 wT [Cq B1 f.cells 36, Cq B4 #[.slice ad (fieldsOf f.Kind).length cp, .slice ad2 (Em f.Kind).length cp2, .func (.func (Eo (Gx f.Kind))) #[] #[], .bool (F6 f.Kind)] 130] := ⟨hU0.fr _, fun A hA => by simp only [List.mem_cons, List.mem_nil_iff, or_false] at hA; rcases hA with rfl | rfl; exact ⟨hB1X, hS.foot 0 rfl⟩; exact ⟨hB4, fun i (e : i = B4) => .inr oQ⟩, List.Pairwise.cons (fun A hA i (e1 : i = B1) => by simp only [List.mem_singleton] at hA; subst hA; exact fun (e2 : i = B4) => hB14 (e1.symm.trans e2)) (List.pairwise_singleton _ _)⟩
  refine LW.S (CW.region ?_)
  refine LW.pp (.build (cs := #[.pointer none, .slice none 0 0]) underlying124 zeroValue124 K3 .nil rfl) ?_
  refine Ah (.Eu (.t rfl)) rfl ?_
  rintro _ w3 ⟨B16, rfl, NB16⟩
  have eB16 := NB16.at_
  have zB16 := NB16.size
  replace hE0 := hE0.up NB16.up
  replace hS := hS.C7 NB16
  change Wx.Sep _ _ _ [_, _, _] at hS
  refine LW.A rfl (LW.S ?_)
  replace hS := bD (Bs := [_, _]) (e := 5) hS
  change Wx.Sep _ _ _ [_, _, _] at hS
  refine Hm 11 [.eq (.pointer (some ⟨B16, 0, none⟩)), .eq (.pointer (some ⟨B1, 0, none⟩)), .eq (vi f.Kind), .eq (.pointer (some ⟨B1, 2, none⟩)), .eq (vi f.Version), .eq (.pointer (some ⟨B1, 3, none⟩)), .eq (vi f.Day), .eq (.pointer (some ⟨B1, 4, none⟩)), .eq (.bool f.Gone), .eq (vi (Jh f.Gone)), .pred (fun v w => SlT 3 w v 1 A8 [f.Kind, f.Version, f.Day, Jh f.Gone])] [17, 27] kQ rfl kQ kQ kQ kQ kQ kQ kQ ⟨PhU.eq _, PhU.eq _, PhU.eq _, PhU.eq _, PhU.eq _, PhU.eq _, PhU.eq _, PhU.eq _, PhU.eq _, PhU.eq _, PhU.pred fun _ _ _ h u => SlT.Fu h u.Fu, trivial⟩ ?_ ?_
  ·intro W hU0
   have hU := (Up.drew w3).trans hU0
   refine aC ⟨rfl, TU.p (.move (.t rfl)) rfl⟩ ?_
   refine aC ⟨rfl, TU.p (.fA 0 underlying36 rfl sizeOf3 rfl) rfl⟩ ?_
   refine aC ⟨rfl, TU.p (.ld isAgg3 rfl (((hS.blk 0 rfl).up hU).Ak rfl)) rfl⟩ ?_
   refine aC ⟨rfl, TU.p (.fA 2 underlying36 rfl sizeOf3 rfl) rfl⟩ ?_
   refine aC ⟨rfl, TU.p (.ld isAgg3 rfl (((hS.blk 0 rfl).up hU).Ak rfl)) rfl⟩ ?_
   refine aC ⟨rfl, TU.p (.fA 3 underlying36 rfl sizeOf3 rfl) rfl⟩ ?_
   refine aC ⟨rfl, TU.p (.ld isAgg3 rfl (((hS.blk 0 rfl).up hU).Ak rfl)) rfl⟩ ?_
   refine aC ⟨rfl, TU.p (.fA 4 underlying36 rfl sizeOf4 rfl) rfl⟩ ?_
   refine aC ⟨rfl, TU.p (.ld isAgg4 rfl (((hS.blk 0 rfl).up hU).Ak rfl)) rfl⟩ ?_
   refine aC ⟨rfl, TU.c (eC (.o rfl) (sN)) (iE f.Gone _) sQ⟩ ?_
   refine aC ⟨rfl, TU.r (REv.buildSlice (xs := [f.Kind, f.Version, f.Day, Jh f.Gone]) (enc := A8) (mk := vi) underlying30 sizeOf3 zeroValue3 rfl cQ (fun _ => rfl) (fun _ => rfl) (.cons (.t rfl) (.cons (.t rfl) (.cons (.t rfl) (.cons (.t rfl) .nil)))) rfl) (by rintro _ W1 ⟨B, c, rfl, N, y, x⟩; exact ⟨N.up, SlT.lit ⟨B, c, rfl, N, y, x⟩⟩)⟩ ?_
   exact allL.nil
  intro w4 g hU0 hg
  have hU := (Up.drew w3).trans hU0
  have zw4 := hU.size
  replace hS := hS.up hU
  replace hE0 := hE0.up hU
  have e17 : g 17 = .pointer (some ⟨B16, 0, none⟩) := hg 0 _ 17 cQ rfl rfl
  obtain ⟨⟨ad3, cp3, e27, hE27⟩, hT27⟩ := hg 10 _ 27 cQ rfl rfl
  change LW _ _ _ _ _ _ _ _ ((17, .eq (g 17)) :: (27, .eq (g 27)) :: _) _
  rw [e17, e27]
  have hA0 := hS.get 2 rfl
  refine LW.K (eC (.u rfl rfl) (pC)) rfl (iD B16 ad3 cp3 [f.Kind, f.Version, f.Day, Jh f.Gone] ⟨B16, false, .slice none 0 0⟩ _ _ (hS.get 2 rfl) rfl hE27 (fun B o e => by obtain ⟨cs, x, hc⟩ := hT27 B o _ _ (by rw [e27, e]); exact Ir hA0 hc rfl rfl) (by simp)) ?_
  rintro _ w5 ⟨rfl, D1, hb1, uw5⟩
  have zw5 := uw5.fr.size
  replace hS := hS.Dj 2 rfl uw5
  change Wx.Sep _ _ _ [_, _, _] at hS
  replace hE0 := hE0.fr uw5.fr (fun B cs x hc => Ir hA0 hc rfl rfl)
  refine LW.S (CW.region (LW.M rfl ?_))
  refine LW.pp (.la isAgg36 sizeOf36 rfl ((hS.blk 0 rfl).agg)) ?_
  refine LW.pp (.fA 0 underlying130 rfl sizeOf128 rfl) ?_
  refine LW.pp (.ld isAgg128 rfl ((hS.blk 1 rfl).Ak rfl)) ?_
  refine LW.K (eC (.u rfl rfl) (rG)) rfl (Pn f ad _ cp _) ?_
  rintro _ w6 ⟨⟨Ba, Bb, rfl, hBa, hBb⟩, uw6⟩
  have zw6 := uw6.size
  replace hS := hS.up uw6
  replace hE0 := hE0.up uw6
  refine LW.K (eC (.u rfl rfl) (rF)) rfl (Tm B16 Ba Bb ad cp _ f D1 _ _ (hS.get 2 rfl) hb1 hBa hBb hE0.els (fun B o e => by obtain ⟨cs, x, hc⟩ := hE0.ty B o e; exact ⟨lt_of_block hc, Ir (hS.get 2 rfl) hc rfl rfl⟩) (mH f) (Tb f.Kind)) ?_
  rintro _ w7 ⟨rfl, D2, hb2, uw7⟩
  have zw7 := uw7.fr.size
  replace hS := hS.Dj 2 rfl uw7
  change Wx.Sep _ _ _ [_, _, _] at hS
  rw [List.nil_append, ← Tl] at hS
  have hKL : [f.Kind, f.Version, f.Day, Jh f.Gone] ++ Eb (fieldsOf f.Kind) f = Ox f := rfl
  rw [hKL] at hS
  refine LW.S (CW.S ?_)
  refine LW.pp (.fA 3 underlying130 rfl sizeOf4 rfl) ?_
  refine LW.pp (.ld isAgg4 rfl ((hS.blk 1 rfl).Ak rfl)) ?_
  refine LW.T ?_
  refine CW.cond (.t rfl) (fun h36 => ?_) (fun h36 => ?_)
  ·replace h36 := dQ h36
   refine CW.S ?_
   refine LW.pp (.fA 18 underlying36 rfl sizeOf9 rfl) ?_
   refine LW.pp (.ld isAgg9 rfl ((hS.blk 0 rfl).Ak rfl)) ?_
   refine LW.K (eC (.o rfl) (sO)) rfl (Sx f.Text _ (by have := Ia hq1; omega)) ?_
   rintro _ w8 ⟨rfl, uw8⟩
   have zw8 := uw8.size
   replace hS := hS.up uw8
   refine LW.M rfl (LW.pp (.extract (.t rfl) rfl) (LW.pp (.extract (.t rfl) rfl) (LW.A rfl (LW.A rfl (LW.T (CW.region (LW.M rfl ?_)))))))
   refine LW.pp (.nilCheck (.t rfl)) ?_
   refine LW.pp (.fA 0 underlying124 rfl sizeOf122 rfl) ?_
   refine LW.M rfl ?_
   refine LW.K (eC (.u rfl rfl) (oE)) rfl (Me B16 _ D2 _ _ (hS.get 2 rfl) hb2 (by rw [Rc]; have := Wl f.Text.data.toList; rw [Us] at this; have := Ia hq1; have := iF f; omega)) ?_
   rintro _ w9 ⟨rfl, bf, uw9⟩
   have zw9 := uw9.fr.size
   replace hS := hS.Dj 2 rfl uw9
   change Wx.Sep _ _ _ [_, _, _] at hS
   refine LW.S ?_
   obtain ⟨D3, hb3, hS3⟩ : ∃ D3 : Wri, D3.bd = B16 ∧ Wx.Sep no w0 w9 [Cq B1 f.cells 36, Cq B4 #[.slice ad (fieldsOf f.Kind).length cp, .slice ad2 (Em f.Kind).length cp2, .func (.func (Eo (Gx f.Kind))) #[] #[], .bool (F6 f.Kind)] 130, De 124 5 D3 (Hn f)] := by first | exact ⟨⟨B16, true, bf⟩, rfl, by rw [← Tn (decide_eq_true h36)]; exact hS⟩ | exact ⟨D2, hb2, by rw [← bJ (decide_eq_false h36)]; exact hS⟩
   replace hS := hS3
   refine CW.region (LW.M rfl ?_)
   refine LW.pp (.nilCheck (.t rfl)) ?_
   refine LW.pp (.fA 0 underlying124 rfl sizeOf122 rfl) ?_
   refine LW.K (eC (.o rfl) (pD)) rfl (Rg B16 D3 _ _ (hS.get 2 rfl) hb3 (bG hq1) (by have := bI hq1; omega)) ?_
   rintro _ w10 ⟨rfl, hF⟩
   refine LW.A rfl (LW.C (LW.T (CW.ret ?_)))
   refine Hi rfl rfl rfl ⟨_, rfl, ?_⟩
   rw [Rf, Po, if_pos hq1, if_pos hq1]
   exact ⟨rfl, (hS.fr.next hF (hS.foot 2 rfl)).lO (fun _ h => h)⟩
  replace h36 := dQ h36
  refine CW.skip (KW.then (CW.seq ?_))
  obtain ⟨D3, hb3, hS3⟩ : ∃ D3 : Wri, D3.bd = B16 ∧ Wx.Sep no w0 w7 [Cq B1 f.cells 36, Cq B4 #[.slice ad (fieldsOf f.Kind).length cp, .slice ad2 (Em f.Kind).length cp2, .func (.func (Eo (Gx f.Kind))) #[] #[], .bool (F6 f.Kind)] 130, De 124 5 D3 (Hn f)] := by first | exact ⟨⟨B16, true, bf⟩, rfl, by rw [← Tn (decide_eq_true h36)]; exact hS⟩ | exact ⟨D2, hb2, by rw [← bJ (decide_eq_false h36)]; exact hS⟩
  replace hS := hS3
  refine CW.region (LW.M rfl ?_)
  refine LW.pp (.nilCheck (.t rfl)) ?_
  refine LW.pp (.fA 0 underlying124 rfl sizeOf122 rfl) ?_
  refine LW.K (eC (.o rfl) (pD)) rfl (Rg B16 D3 _ _ (hS.get 2 rfl) hb3 (bG hq1) (by have := bI hq1; omega)) ?_
  rintro _ w11 ⟨rfl, hF⟩
  refine LW.A rfl (LW.C (LW.T (CW.ret ?_)))
  refine Hi rfl rfl rfl ⟨_, rfl, ?_⟩
  rw [Rf, Po, if_pos hq1, if_pos hq1]
  exact ⟨rfl, (hS.fr.next hF (hS.foot 2 rfl)).lO (fun _ h => h)⟩
 | false =>
  refine CW.region ?_
  refine LW.pp (.la isAgg36 sizeOf36 rfl ((hS.blk 0 rfl).agg)) ?_
  refine LW.K (eC (.o rfl) (lM)) rfl (Lt f _) ?_
  rintro _ w12 ⟨rfl, uw12⟩
  have zw12 := uw12.size
  replace hS := hS.up uw12
  refine LW.pp (.tr (PEv.not (.t rfl)) (by rw [hq1]; rfl)) ?_
  refine LW.T ?_
  refine CW.cond_true (.t rfl) ?_
  refine CW.S (LW.C (LW.C (LW.T (CW.ret (Ae ?_)))))
  refine Hi rfl rfl rfl ⟨_, rfl, ?_⟩
  rw [Rf, Po, if_neg (by rw [hq1]; exact Bool.false_ne_true), if_neg (by rw [hq1]; exact Bool.false_ne_true)]
  exact ⟨rfl, hS.Cu⟩
end Go.Proofs.YtmimclgihlhaeaaGreat
namespace Go.Wx
theorem Uv (a b : Fact) : ((⟨(A6 a).toArray⟩ : ByteArray).toList == (⟨(A6 b).toArray⟩ : ByteArray).toList) = (A6 a == A6 b) := by rw [Hw, Hw]
theorem Fw {a b : Fact} (h : (A5 a && A5 b) = false) : false = D9 a b := by simp [D9, h]
theorem K6 {a b : Fact} (h : (!((⟨(A6 a).toArray⟩ : ByteArray).toList == (⟨(A6 b).toArray⟩ : ByteArray).toList)) = true) : false = D9 a b := by
 rw [Uv] at h
 simp only [Bool.not_eq_true'] at h
 simp [D9, h]
theorem K7 {a b : Fact} (ha : A5 a = true) (hb : A5 b = true) (h : (!((⟨(A6 a).toArray⟩ : ByteArray).toList == (⟨(A6 b).toArray⟩ : ByteArray).toList)) = false) (hv : (!decide (a.Version = b.Version)) = true) : decide (b.Version < a.Version) = D9 a b := by
 rw [Uv] at h
 simp only [Bool.not_eq_false'] at h
 have hv : a.Version ≠ b.Version := by simpa using hv
 simp [D9, ha, hb, h, hv]
theorem K8 {a b : Fact} (ha : A5 a = true) (hb : A5 b = true) (h : (!((⟨(A6 a).toArray⟩ : ByteArray).toList == (⟨(A6 b).toArray⟩ : ByteArray).toList)) = false) (hv : (!decide (a.Version = b.Version)) = false) : decide (0 < Go.Lib.compareBytes (Rf a) (Rf b)) = D9 a b := by
 rw [Uv] at h
 simp only [Bool.not_eq_false'] at h
 have hv : a.Version = b.Version := by simpa using hv
 have e : ¬ b.Version < a.Version := by omega
 simp only [D9, ha, hb, h, hv, Rf, if_true, Bool.true_and, decide_true, Bool.and_true, Int.lt_irrefl, decide_false, Bool.false_or]
end Go.Wx
namespace Go.Proofs.YtmimclgihlhaeaaGreat
open Go.Proofs.Tryz
open Go.Wx Go.RowKit
theorem Nr (a b : ByteArray) (w : World) : Ret Tryz.prog 141 #[.string a, .string b] w fun r w' => r = vi (Go.Lib.compareBytes a.data.toList b.data.toList) ∧ Up w w' := by
 have hW := Up.refl w
 refine cS (n := 8) (m := 9) func141 rfl rfl rfl ?_
 refine CW.S (LW.C (LW.S (CW.region (LW.M rfl (LW.M rfl ?_)))))
 refine LW.pp (.ext (.cons (.t rfl) (.cons (.t rfl) .nil)) (Sw func172 rfl rfl kQ kQ _ _)) ?_
 refine LW.A rfl (LW.T (CW.ret ?_))
 refine Af rfl rfl ⟨_, rfl, ?_⟩
 exact ⟨rfl, hW⟩
theorem Wn (a b : ByteArray) (w : World) : Ret Tryz.prog 68 #[.string a, .string b] w fun r w' => r = vi (Go.Lib.compareBytes a.data.toList b.data.toList) ∧ Up w w' := by
 have hW := Up.refl w
 refine cS (n := 8) (m := 9) func68 rfl rfl rfl ?_
 refine CW.S (LW.C (LW.S (CW.region (LW.M rfl (LW.M rfl ?_)))))
 refine LW.K (eC (.u rfl rfl) (sP)) rfl (Nr a b _) ?_
 rintro _ w1 ⟨rfl, uw1⟩
 have zw1 := uw1.size
 replace hW := hW.up uw1
 refine LW.A rfl (LW.T (CW.ret ?_))
 refine Af rfl rfl ⟨_, rfl, ?_⟩
 exact ⟨rfl, hW⟩
theorem Uw (a b : Fact) (w : World) : Ret Tryz.prog 32 #[.agg a.cells, .agg b.cells] w fun r w' => r = .bool (D9 a b) ∧ Up w w' := by
 have hW := Up.refl w
 refine cS (n := 44) (m := 9) func32 rfl rfl rfl ?_
 refine CW.S ?_
 refine Ah (.Eu (.t rfl)) rfl ?_
 rintro _ w1 ⟨B2, rfl, NB2⟩
 have eB2 := NB2.at_
 have zB2 := NB2.size
 replace hW := hW.up NB2.up
 have hB2 := NB2.blk
 refine Ah (.Eu (.t rfl)) rfl ?_
 rintro _ w2 ⟨B3, rfl, NB3⟩
 have eB3 := NB3.at_
 have zB3 := NB3.size
 replace hW := hW.up NB3.up
 replace hB2 := hB2.up NB3.up
 have hB3 := NB3.blk
 refine LW.C (LW.S (CW.region ?_))
 refine LW.pp (.la isAgg36 sizeOf36 rfl (hB2.agg)) ?_
 refine LW.K (eC (.o rfl) (rH)) rfl (Rh a _) ?_
 rintro _ w3 ⟨rfl, uw3⟩
 have zw3 := uw3.size
 replace hW := hW.up uw3
 replace hB2 := hB2.up uw3
 replace hB3 := hB3.up uw3
 refine LW.M rfl (LW.pp (.extract (.t rfl) rfl) (LW.pp (.extract (.t rfl) rfl) (LW.A rfl (LW.A rfl (LW.S (CW.region ?_))))))
 refine LW.pp (.la isAgg36 sizeOf36 rfl (hB3.agg)) ?_
 refine LW.K (eC (.o rfl) (rH)) rfl (Rh b _) ?_
 rintro _ w4 ⟨rfl, uw4⟩
 have zw4 := uw4.size
 replace hW := hW.up uw4
 replace hB2 := hB2.up uw4
 replace hB3 := hB3.up uw4
 refine LW.M rfl (LW.pp (.extract (.t rfl) rfl) (LW.pp (.extract (.t rfl) rfl) (LW.A rfl (LW.A rfl (LW.S (CW.block (CW.seq (CW.seq ?_))))))))
 cases hq3 : A5 a with
 | false =>
  refine CW.region (LW.M rfl ?_)
  refine LW.pp (.tr (PEv.neq (.t rfl) (.const _)) (by rw [Po, if_neg (by rw [hq3]; exact Bool.false_ne_true)]; rfl)) ?_
  refine LW.A rfl (LW.T ?_)
  refine CW.cond_true (.t rfl) ?_
  refine CW.skip (KW.then ?_)
  refine CW.cond_true (.t rfl) ?_
  refine CW.S (LW.C (LW.T (CW.ret (Ao (Ae ?_)))))
  refine Af rfl rfl ⟨_, rfl, ?_⟩
  refine ⟨congrArg Go.Value.bool ?_, hW⟩
  first | exact Fw (by rw [hq3]; rfl) | exact Fw (by rw [hq3, hq4]; rfl) | exact K6 h19 | exact K7 hq3 hq4 h19 h29 | exact K8 hq3 hq4 h19 h29
 | true =>
  refine CW.region (LW.M rfl ?_)
  refine LW.pp (.fa (PEv.neq (.t rfl) (.const _)) (by rw [Po, if_pos hq3]; rfl)) ?_
  refine LW.A rfl (LW.T ?_)
  refine CW.cond_false (.t rfl) ?_
  refine CW.seq ?_
  cases hq4 : A5 b with
  | false =>
   refine CW.region (LW.M rfl ?_)
   refine LW.pp (.tr (PEv.neq (.t rfl) (.const _)) (by rw [Po, if_neg (by rw [hq4]; exact Bool.false_ne_true)]; rfl)) ?_
   refine LW.A rfl (LW.T ?_)
   refine CW.cond_true (.t rfl) ?_
   refine CW.skip (KW.then ?_)
   refine CW.cond_true (.t rfl) ?_
   refine CW.S (LW.C (LW.T (CW.ret (Ao (Ae ?_)))))
   refine Af rfl rfl ⟨_, rfl, ?_⟩
   refine ⟨congrArg Go.Value.bool ?_, hW⟩
   first | exact Fw (by rw [hq3]; rfl) | exact Fw (by rw [hq3, hq4]; rfl) | exact K6 h19 | exact K7 hq3 hq4 h19 h29 | exact K8 hq3 hq4 h19 h29
  | true =>
   refine CW.region (LW.M rfl ?_)
   refine LW.pp (.fa (PEv.neq (.t rfl) (.const _)) (by rw [Po, if_pos hq4]; rfl)) ?_
   refine LW.A rfl (LW.T ?_)
   refine CW.cond_false (.t rfl) ?_
   refine Ct kQ kQ rfl rfl ?_
   refine HW.pp (.la isAgg36 sizeOf36 rfl (hB2.agg)) ?_
   refine HW.c (fun a w _ ha => Ch (.cons (.t rfl) .nil) (oX) a ha) rfl rfl (fun w hu => Uu a w) ?_
   refine HW.pp (.la isAgg36 sizeOf36 rfl (hB3.agg)) ?_
   refine HW.c (fun a w _ ha => Ch (.cons (.t rfl) .nil) (oX) a ha) rfl rfl (fun w hu => Uu b w) ?_
   refine HW.pp (.pF (.t rfl) (.t rfl)) ?_
   refine HW.pp (.assign (.t rfl)) ?_
   refine HW.nil ?_
   intro w5 uw5
   have zw5 := uw5.size
   replace hW := hW.up uw5
   replace hB2 := hB2.up uw5
   replace hB3 := hB3.up uw5
   refine KW.then ?_
   refine CW.cond (.t rfl) (fun h19 => ?_) (fun h19 => ?_)
   ·replace h19 := dQ h19
    refine CW.S (LW.C (LW.T (CW.ret (Ao (Ae ?_)))))
    refine Af rfl rfl ⟨_, rfl, ?_⟩
    refine ⟨congrArg Go.Value.bool ?_, hW⟩
    first | exact Fw (by rw [hq3]; rfl) | exact Fw (by rw [hq3, hq4]; rfl) | exact K6 h19 | exact K7 hq3 hq4 h19 h29 | exact K8 hq3 hq4 h19 h29
   replace h19 := dQ h19
   refine CW.S ?_
   refine LW.pp (.fA 2 underlying36 rfl sizeOf3 rfl) ?_
   refine LW.pp (.ld isAgg3 rfl (hB2.Ak rfl)) ?_
   refine LW.pp (.fA 2 underlying36 rfl sizeOf3 rfl) ?_
   refine LW.pp (.ld isAgg3 rfl (hB3.Ak rfl)) ?_
   refine LW.pp (.neq (.t rfl) (.t rfl)) ?_
   refine LW.A rfl (LW.T ?_)
   refine CW.cond (.t rfl) (fun h29 => ?_) (fun h29 => ?_)
   ·replace h29 := dQ h29
    refine CW.S ?_
    refine LW.pp (.fA 2 underlying36 rfl sizeOf3 rfl) ?_
    refine LW.pp (.ld isAgg3 rfl (hB2.Ak rfl)) ?_
    refine LW.pp (.fA 2 underlying36 rfl sizeOf3 rfl) ?_
    refine LW.pp (.ld isAgg3 rfl (hB3.Ak rfl)) ?_
    refine LW.pp (.gtr (.t rfl) (.t rfl)) ?_
    refine LW.A rfl (LW.T (CW.ret (Ao (Ae ?_))))
    refine Af rfl rfl ⟨_, rfl, ?_⟩
    refine ⟨congrArg Go.Value.bool ?_, hW⟩
    first | exact Fw (by rw [hq3]; rfl) | exact Fw (by rw [hq3, hq4]; rfl) | exact K6 h19 | exact K7 hq3 hq4 h19 h29 | exact K8 hq3 hq4 h19 h29
   replace h29 := dQ h29
   refine CW.skip (KW.inBlock (KW.then (CW.S (LW.M rfl (LW.M rfl ?_)))))
   refine LW.K (eC (.u rfl rfl) (vJ)) rfl (Wn _ _ _) ?_
   rintro _ w6 ⟨rfl, uw6⟩
   have zw6 := uw6.size
   replace hW := hW.up uw6
   replace hB2 := hB2.up uw6
   replace hB3 := hB3.up uw6
   refine LW.pp (.gtr (.t rfl) (.const _)) ?_
   refine LW.A rfl (LW.T (CW.ret ?_))
   refine Af rfl rfl ⟨_, rfl, ?_⟩
   refine ⟨congrArg Go.Value.bool ?_, hW⟩
   first | exact Fw (by rw [hq3]; rfl) | exact Fw (by rw [hq3, hq4]; rfl) | exact K6 h19 | exact K7 hq3 hq4 h19 h29 | exact K8 hq3 hq4 h19 h29
end Go.Proofs.YtmimclgihlhaeaaGreat
end
section
namespace Go.Wx
open Go.RowKit
theorem Ux {d d' : Nat} {p q : Op} {t t' : TypeId} {s s' : String} {a a' : Array Edge} {g g' : Option (Nat × Bool)} (h : some (⟨some d, p, t, s, a, g⟩ : Oper) = some ⟨some d', q, t', s', a', g'⟩) : d = d' := by
 injection h with h
 injection h with h
 injection h
theorem tQ {d d' : Option Nat} {x x' : Operand} {y y' : Nat} {T T' t t' : TypeId} {s s' : String} {a a' : Array Edge} {g g' : Option (Nat × Bool)} (h : some (⟨d, .store T x (.tmp y), t, s, a, g⟩ : Oper) = some ⟨d', .store T' x' (.tmp y'), t', s', a', g'⟩) : y = y' := by
 injection h with h
 injection h with _ h
 injection h with _ _ h
 injection h
structure Bv where
 ia : Nat
 is : Nat
 isv : Nat
 sa : Nat
 sv : Nat
def Hg (v : Value) (B : Nat) : Prop := v = .pointer (some ⟨B, 0, none⟩)
section
variable {R : Option Nat} {m : Nat} {P : Program} {n : Nat} {ds : List Deferred} {Q : Exit → Go.Act → World → Prop} {l : Env} {w : World} {ops : Array Oper}
def tR (bs : List Bv) (T : TypeId) (z : Array Value) (w0 : World) (L : Nat → Bool) (f : Nat → Value) (W : World) : Prop :=
 Up w0 W ∧ (∀ b ∈ bs, (L b.is = true → L b.ia = true) ∧ (L b.ia = true → ∃ B, Hg (f b.sa) B ∧ w0.heap.size ≤ B ∧ Blk W B (if L b.is = true then (f b.sv).cells else z) T)) ∧
   bs.Pairwise fun b c => L b.ia = true → L c.ia = true → ∀ B, Hg (f b.sa) B → ¬ Hg (f c.sa) B
def Zc (bs : List Bv) : Bool := bs.all fun b => bs.all fun c => (!Nat.beq b.ia c.is) && ((Nat.beq b.ia c.ia && Nat.beq b.is c.is) || (!Nat.beq b.ia c.ia && !Nat.beq b.is c.is && !Nat.beq b.sa c.sa))
theorem Ji {bs : List Bv} (h : Zc bs = true) {b c : Bv} (hb : b ∈ bs) (hc : c ∈ bs) : b.ia ≠ c.is ∧ ((b.ia = c.ia ∧ b.is = c.is) ∨ (b.ia ≠ c.ia ∧ b.is ≠ c.is ∧ b.sa ≠ c.sa)) := by
 have h1 := List.all_eq_true.1 (List.all_eq_true.1 h b hb) c hc
 simp only [Bool.and_eq_true, Bool.or_eq_true, Bool.not_eq_true'] at h1
 refine ⟨fun e => ?_, ?_⟩
 · have := h1.1; rw [e] at this; simp at this
 rcases h1.2 with ⟨a, b⟩ | ⟨⟨a, b⟩, c⟩
 · exact .inl ⟨Nat.eq_of_beq_eq_true a, Nat.eq_of_beq_eq_true b⟩
 exact .inr ⟨fun e => by rw [e] at a; simp at a, fun e => by rw [e] at b; simp at b, fun e => by rw [e] at c; simp at c⟩
theorem AWF.vars {k : Nat} {bs : List Bv} {T : TypeId} {z : Array Value} {base : Env} (ph : Nat → Ph) {f0 : Nat → Value} (hz : ∀ w, (zeroValue T).run P w = .ok (.agg z) w) (hs : ∀ w, (sizeOf T).run P w = .ok z.size w)
   (hph : ∀ i v w w', (ph i).holds v w → KeepT T w w' → (ph i).holds v w') (hA : Dd ops = true) (hC : (Nat.beq k ops.size || Ez ops k) = true) (hF : H8 ops k = true) (hks : Nat.ble k ops.size = true)
   (hD : F5 n ops 0 k = true) (hbp : Bj base = true) (hbd : ∀ i ph, lk base i = some ph → ∀ (j : Nat) (o : Oper), 0 ≤ j → j < k → ops[j]? = some o → o.dst ≠ some i) (hv : Zc bs = true) (hnd : bs.Pairwise fun b c => b.ia ≠ c.ia)
   (hlit : ∀ b ∈ bs, Nn ops b.ia [(b.is, 0, b.sv)] = true) (hk : ∀ b ∈ bs, b.is < k ∧ b.ia < k)
   (hia : ∀ b ∈ bs, ∃ ty ps af, ops[b.ia]? = some ⟨some b.sa, .alloc T, ty, ps, af, none⟩) (his : ∀ b ∈ bs, ∃ ty ps af, ops[b.is]? = some ⟨none, .store T (.tmp b.sa) (.tmp b.sv), ty, ps, af, none⟩)
   (hlk : ∀ b ∈ bs, ∀ o, ops[b.is]? = some o → lk (Je ops ph 0 o ++ base) b.sv = some (ph b.isv)) (hsv : ∀ b ∈ bs, ∀ v W, (ph b.isv).holds v W → ∃ cs, v = .agg cs ∧ cs.size = z.size ∧ cs.all (·.oneCell') = true)
   (hpa : ∀ b ∈ bs, ∀ B W, (ph b.ia).holds (.pointer (some ⟨B, 0, none⟩)) W)
   (hop : ∀ i o, i < k → (∀ b ∈ bs, i ≠ b.ia ∧ i ≠ b.is) → ops[i]? = some o → o.guard = none ∧ ∀ W, KeepT T w W → ∀ a, Ag n ds (Je ops ph 0 o ++ base) a W → cY P o a W (fun v W' => Up W W' ∧ (ph i).holds v W'))
   (hend : ∀ f W, Up w W → (∀ b ∈ bs, ∃ B, Hg (f b.sa) B ∧ w.heap.size ≤ B ∧ Blk W B (f b.sv).cells T) → (bs.Pairwise fun b c => ∀ B, Hg (f b.sa) B → ¬ Hg (f c.sa) B) → AWF R m P n ds ops Q k (Gn ops ph 0 k ++ base) f W) : AWF R m P n ds ops Q 0 base f0 w := by
 have ptr1 : ∀ {v : Value} {B B' : Nat}, Hg v B → Hg v B' → B = B' := fun h1 h2 => by unfold Hg at h1 h2; rw [h1] at h2; cases h2; rfl
 refine AWF.gen ph (KeepT T) (tR bs T z w) (KeepT.refl T) (fun _ _ _ => KeepT.trans) hph hA hC hF hks (by simp) hD hbp hbd ?_ ⟨Up.refl w, fun b hb => ⟨fun h => by simp at h, fun h => by simp at h⟩, List.pairwise_iff_forall_sublist.2 fun _ h => by simp at h⟩ ?_
 · intro i o _ hi hio L f W hRel hDn hLi hed hInv
   obtain ⟨hUp, hB, hP⟩ := hInv
   -- slots of addresses are written by their allocs alone
   have saOf : ∀ c ∈ bs, c.ia ≠ i → o.dst ≠ some c.sa := fun c hc hne ed => by
     obtain ⟨ty, ps, af, h⟩ := hia c hc
     exact (Cn hD (Nat.zero_le _) hi hio ed).2 c.ia _ (Nat.zero_le _) (hk c hc).2 hne h rfl
   have svOf : ∀ c ∈ bs, L c.is = true → o.dst ≠ some c.sv := fun c hc hLs ed => by
     obtain ⟨os, hos, hods, ⟨e, he, hbe, hon⟩, ⟨e', he', hbe', pv, hpv, hpvd⟩⟩ := Gg (hlit c hc) List.mem_cons_self
     have h2 := hDn _ _ hos hLs e' he' hbe'
     have h3 := Di hA hos e' he' hbe'
     have h4 := (hk c hc).1
     by_cases ee : e'.on = i
     · rw [ee, hLi] at h2; cases h2
     exact (Cn hD (Nat.zero_le _) hi hio ed).2 e'.on pv (Nat.zero_le _) (by have h3' : e'.on < c.is := h3; omega) ee hpv hpvd
   by_cases e0 : ∃ b ∈ bs, i = b.ia
   · obtain ⟨b, hb, rfl⟩ := e0
     obtain ⟨ty, ps, af, hia0⟩ := hia b hb
     rw [hio] at hia0; cases hia0
     intro a ha hsl
     rw [if_pos (by simp [Region.wanted])]
     obtain ⟨v, W', hr, B, rfl, N⟩ := REv.A7 (P := P) (n := n) (ds := ds) (l := Je ops ph 0 _ ++ base) (w := W) (d := some b.sa) (ty := ty) (ps := ps) (af := af) (g := none) hz a ha
     have hLs : L b.is = false := by
       cases h : L b.is with
       | false => rfl
       | true => rw [(hB b hb).1 h] at hLi; cases hLi
     have ne : ∀ c ∈ bs, c.is ≠ b.ia := fun c hc => Ne.symm (Ji hv hb hc).1
     have old : ∀ c ∈ bs, c.ia ≠ b.ia → Bk L b.ia c.ia = L c.ia ∧ D5 f (some b.sa) (.pointer (some ⟨B, 0, none⟩)) c.sa = f c.sa := fun c hc hne => by
       have h1 : b.sa ≠ c.sa := by
         rcases (Ji hv hb hc).2 with ⟨h, _⟩ | ⟨_, _, h⟩
         · exact absurd h.symm hne
         exact h
       exact ⟨by simp [Bk, hne], by simp [D5, h1]⟩
     refine .inl (.inl ⟨_, W', hr, N.up.C4, fun _ _ => hpa b hb B W', hUp.trans N.up, fun c hc => ?_, ?_⟩)
     · have ns : Bk L b.ia c.is = L c.is := by simp [Bk, ne c hc]
       by_cases hcb : c.ia = b.ia
       · have hsa : c.sa = b.sa := by
           obtain ⟨_, _, _, h⟩ := hia c hc
           rw [hcb, hio] at h; exact (Ux h).symm
         have his' : c.is = b.is := by
           rcases (Ji hv hc hb).2 with ⟨_, h⟩ | ⟨h, _⟩
           · exact h
           exact absurd hcb h
         refine ⟨fun _ => by rw [hcb]; simp [Bk], fun _ => ⟨B, by rw [hsa]; simp [Hg, D5], by rw [N.at_]; exact hUp.size, ?_⟩⟩
         rw [ns, his', hLs]
         exact N.blk
       obtain ⟨o1, o2⟩ := old c hc hcb
       refine ⟨fun h => by rw [o1]; rw [ns] at h; exact (hB c hc).1 h, fun h => ?_⟩
       rw [o1] at h
       obtain ⟨B', h1, h2, h3⟩ := (hB c hc).2 h
       refine ⟨B', by rw [o2]; exact h1, h2, ?_⟩
       rw [ns]
       cases hLc : L c.is with
       | false => rw [hLc] at h3; exact h3.up N.up
       | true =>
         rw [hLc] at h3
         have h4 : D5 f (some b.sa) (.pointer (some ⟨B, 0, none⟩)) c.sv = f c.sv := by
           have h5 := svOf c hc hLc
           have h6 : b.sa ≠ c.sv := fun e => h5 (by rw [e])
           simp [D5, h6]
         rw [h4]
         exact h3.up N.up
     refine List.Pairwise.imp_of_mem ?_ (hnd.and hP)
     rintro c c' hc hc' ⟨hne, hp⟩ h1 h2 X hx hx'
     by_cases ec : c.ia = b.ia
     · have ec' : c'.ia ≠ b.ia := fun e => hne (ec.trans e.symm)
       obtain ⟨q1, q2⟩ := old c' hc' ec'
       rw [q1] at h2; rw [q2] at hx'
       obtain ⟨B', h3, _, h5⟩ := (hB c' hc').2 h2
       have hsa : c.sa = b.sa := by
         obtain ⟨_, _, _, h⟩ := hia c hc
         rw [ec, hio] at h; exact (Ux h).symm
       have hxB : X = B := ptr1 hx (by rw [hsa]; simp [Hg, D5])
       have := ptr1 hx' h3
       have h6 := h5.lt
       rw [N.at_] at hxB
       omega
     obtain ⟨q1, q2⟩ := old c hc ec
     rw [q1] at h1; rw [q2] at hx
     by_cases ec' : c'.ia = b.ia
     · obtain ⟨B', h3, _, h5⟩ := (hB c hc).2 h1
       have hsa : c'.sa = b.sa := by
         obtain ⟨_, _, _, h⟩ := hia c' hc'
         rw [ec', hio] at h; exact (Ux h).symm
       have hxB : X = B := ptr1 hx' (by rw [hsa]; simp [Hg, D5])
       have := ptr1 hx h3
       have h6 := h5.lt
       rw [N.at_] at hxB
       omega
     obtain ⟨q1', q2'⟩ := old c' hc' ec'
     rw [q1'] at h2; rw [q2'] at hx'
     exact hp h1 h2 X hx hx'
   have e0' : ∀ b ∈ bs, b.ia ≠ i := fun b hb e => e0 ⟨b, hb, e.symm⟩
   by_cases e1 : ∃ b ∈ bs, i = b.is
   · obtain ⟨b, hb, rfl⟩ := e1
     obtain ⟨os, hos, hods, ⟨e, he, hbe, hon⟩, _⟩ := Gg (hlit b hb) List.mem_cons_self
     have hLa : L b.ia = true := by rw [hos] at hio; cases hio; rw [← hon]; exact hed e he hbe
     obtain ⟨ty, ps, af, his0⟩ := his b hb
     rw [hio] at his0; cases his0
     intro a ha hsl
     rw [if_pos (by simp [Region.wanted])]
     obtain ⟨B, h1, hBs, hblk⟩ := (hB b hb).2 hLa
     rw [hLi] at hblk
     obtain ⟨cs, hcs, hcz, hc1⟩ := hsv b hb _ W (ha.val b.sv _ (hlk b hb _ hio))
     have hfs : f b.sv = .agg cs := by rw [← hsl]; exact hcs
     have hsn : b.sa ≠ b.sv := fun e' => by unfold Hg at h1; rw [e', hfs] at h1; cases h1
     have hag : Ag n ds [(b.sv, .eq (.agg cs)), (b.sa, .eq (.pointer (some ⟨B, 0, none⟩)))] a W := by
       refine ⟨ha.defers, ha.size, fun t q ht => ?_⟩
       by_cases e1 : t = b.sv
       · subst e1; rw [Al] at ht; cases ht; exact hcs
       rw [Ap e1] at ht
       by_cases e2 : t = b.sa
       · subst e2; rw [Al] at ht; cases ht; exact (hsl _).trans h1
       rw [Ap e2] at ht; cases ht
     obtain ⟨W', hr, hset⟩ := SEv.A3 (P := P) (n := n) (ds := ds) (w := W) (l := [(b.sv, .eq (.agg cs)), (b.sa, .eq (.pointer (some ⟨B, 0, none⟩)))]) (x := .tmp b.sa) (y := .tmp b.sv) (ty := ty) (ps := ps) (af := af) (g := none) hs hcz (.tmp (by rw [Ap hsn, Al])) (.tmp Al) hc1 hblk (by simp) a hag
     have na : ∀ c ∈ bs, Bk L b.is c.ia = L c.ia := fun c hc => by
       have := (Ji hv hc hb).1
       simp [Bk, this]
     refine .inr ⟨W', hr, hset.sto.C4 (by rw [hset.size]; exact Nat.le_refl _) hblk, (fun d hd => by cases hd), hUp.sto hset.sto hBs, fun c hc => ?_, ?_⟩
     · by_cases hcb : c.is = b.is
       · have hca : c.ia = b.ia ∧ c.sa = b.sa := by
           rcases (Ji hv hc hb).2 with ⟨h, _⟩ | ⟨_, h, _⟩
           · refine ⟨h, ?_⟩
             obtain ⟨_, _, _, h1⟩ := hia c hc
             obtain ⟨_, _, _, h2⟩ := hia b hb
             rw [h, h2] at h1; exact (Ux h1).symm
           exact absurd hcb h
         have hcv : c.sv = b.sv := by
           obtain ⟨_, _, _, h1⟩ := his c hc
           rw [hcb, hio] at h1; exact (tQ h1).symm
         refine ⟨fun _ => by rw [na c hc, hca.1]; exact hLa, fun _ => ⟨B, by rw [hca.2]; exact h1, hBs, ?_⟩⟩
         have h2 : Bk L b.is c.is = true := by simp [Bk, hcb]
         rw [h2, if_pos rfl, hcv]
         show Blk W' B (f b.sv).cells T
         rw [hfs]
         exact hset.blk
       have ns : Bk L b.is c.is = L c.is := by simp [Bk, hcb]
       refine ⟨fun h => by rw [na c hc]; rw [ns] at h; exact (hB c hc).1 h, fun h => ?_⟩
       rw [na c hc] at h
       obtain ⟨B', h3, h4, h5⟩ := (hB c hc).2 h
       have hne : B' ≠ B := by
         have hcne : c ≠ b := fun e => hcb (by rw [e])
         intro e
         subst e
         rcases List.mem_iff_getElem.1 hc with ⟨ic, hic, ec⟩
         rcases List.mem_iff_getElem.1 hb with ⟨ib, hib, eb⟩
         rcases Nat.lt_trichotomy ic ib with q | q | q
         · have := List.pairwise_iff_getElem.1 hP ic ib hic hib q
           rw [ec, eb] at this
           exact this h hLa B' h3 h1
         · subst q; exact hcne (ec.symm.trans eb)
         have := List.pairwise_iff_getElem.1 hP ib ic hib hic q
         rw [ec, eb] at this
         exact this hLa h B' h1 h3
       refine ⟨B', h3, h4, ?_⟩
       rw [ns]
       exact h5.sto hset.sto hne
     refine List.Pairwise.imp_of_mem ?_ hP
     intro c c' hc hc' hp h1 h2 X hx hx'
     rw [na c hc] at h1
     rw [na c' hc'] at h2
     exact hp h1 h2 X hx hx'
   have e1' : ∀ b ∈ bs, b.is ≠ i := fun b hb e => e1 ⟨b, hb, e.symm⟩
   obtain ⟨hg, hop⟩ := hop i o hi (fun b hb => ⟨Ne.symm (e0' b hb), Ne.symm (e1' b hb)⟩) hio
   intro a ha hsl
   rw [if_pos (by simp [Region.wanted, hg])]
   have done : ∀ v W', Up W W' ∧ (ph i).holds v W' → KeepT T W W' ∧ (∀ d, o.dst = some d → (ph i).holds v W') ∧ tR bs T z w (Bk L i) (D5 f o.dst v) W' := by
     rintro v W' ⟨hu, hv'⟩
     have ela : ∀ c ∈ bs, Bk L i c.ia = L c.ia := fun c hc => by simp [Bk, e0' c hc]
     have els : ∀ c ∈ bs, Bk L i c.is = L c.is := fun c hc => by simp [Bk, e1' c hc]
     have esa : ∀ c ∈ bs, D5 f o.dst v c.sa = f c.sa := fun c hc => by simp [D5, saOf c hc (e0' c hc)]
     refine ⟨hu.C4, fun _ _ => hv', hUp.trans hu, fun c hc => ⟨fun h => by rw [ela c hc]; rw [els c hc] at h; exact (hB c hc).1 h, fun h => ?_⟩, ?_⟩
     · rw [ela c hc] at h
       obtain ⟨B, h1, h2, h3⟩ := (hB c hc).2 h
       refine ⟨B, by rw [esa c hc]; exact h1, h2, ?_⟩
       rw [els c hc]
       cases hLc : L c.is with
       | false => rw [hLc] at h3; exact h3.up hu
       | true =>
         rw [hLc] at h3
         have h4 : D5 f o.dst v c.sv = f c.sv := by simp [D5, svOf c hc hLc]
         rw [h4]
         exact h3.up hu
     refine List.Pairwise.imp_of_mem ?_ hP
     intro c c' hc hc' hp h1 h2 X hx hx'
     rw [ela c hc] at h1; rw [ela c' hc'] at h2
     rw [esa c hc] at hx; rw [esa c' hc'] at hx'
     exact hp h1 h2 X hx hx'
   rcases hop W hRel a ha with ⟨v, W', hr, hp⟩ | ⟨fn, args, w1, hr, hc⟩
   · exact .inl (.inl ⟨v, W', hr, done v W' hp⟩)
   exact .inl (.inr ⟨fn, args, w1, hr, hc.mono done⟩)
 intro f W hRel hInv
 obtain ⟨hUp, hB, hP⟩ := hInv
 refine hend f W hUp (fun b hb => ?_) ?_
 · obtain ⟨B, h1, h2, h3⟩ := (hB b hb).2 (by simpa using (hk b hb).2)
   rw [if_pos (by simpa using (hk b hb).1)] at h3
   exact ⟨B, h1, h2, h3⟩
 refine List.Pairwise.imp_of_mem ?_ hP
 intro c c' hc hc' hp X hx hx'
 exact hp (by simpa using (hk c hc).2) (by simpa using (hk c' hc').2) X hx hx'
theorem CW.vars {id : Nat} {opsL : List Oper} (k : Nat) (bs : List Bv) (z : Array Value) (Dc : List Ph) (keep : List Nat) {T : TypeId} (hz : ∀ w, (zeroValue T).run P w = .ok (.agg z) w) (hs : ∀ w, (sizeOf T).run P w = .ok z.size w) (hm : P.follows .mixedOrders = true) (hl : Bj l = true)
   (hA : Dd opsL.toArray = true) (hC : (Nat.beq k opsL.toArray.size || Ez opsL.toArray k) = true) (hF : H8 opsL.toArray k = true) (hks : Nat.ble k opsL.toArray.size = true) (hD : F5 n opsL.toArray 0 k = true) (hTl : F4 opsL.toArray k = true)
   (hfree : I9 l (opsL.take k) = true) (hv : Zc bs = true) (hnd : (bs.map (·.ia)).Nodup) (hlit : (bs.all fun b => Nn opsL.toArray b.ia [(b.is, 0, b.sv)]) = true) (hk : (bs.all fun b => Nat.ble (b.is + 1) k && Nat.ble (b.ia + 1) k) = true)
   (hia : ∀ b ∈ bs, ∃ ty ps af, opsL[b.ia]? = some ⟨some b.sa, .alloc T, ty, ps, af, none⟩) (his : ∀ b ∈ bs, ∃ ty ps af, opsL[b.is]? = some ⟨none, .store T (.tmp b.sa) (.tmp b.sv), ty, ps, af, none⟩) (hph : allT T Dc)
   (hlk : ∀ b ∈ bs, ∀ o, opsL[b.is]? = some o → lk (Je opsL.toArray (fun i => Dc.getD i (.eq undef)) 0 o ++ l) b.sv = some (Dc.getD b.isv (.eq undef))) (hsv : ∀ b ∈ bs, ∀ v W, (Dc.getD b.isv (.eq undef)).holds v W → ∃ cs, v = .agg cs ∧ cs.size = z.size ∧ cs.all (·.oneCell') = true)
   (hpa : ∀ b ∈ bs, ∀ B W, (Dc.getD b.ia (.eq undef)).holds (.pointer (some ⟨B, 0, none⟩)) W)
   (hop : ∀ W, KeepT T w.drew W → allL (fun i o => (∃ b ∈ bs, i = b.ia ∨ i = b.is) ∨ (o.guard = none ∧ TU P n ds (Je opsL.toArray (fun i => Dc.getD i (.eq undef)) 0 o ++ l) W o (Dc.getD i (.eq undef)))) 0 (opsL.take k))
   (hend : ∀ W (g : Nat → Value), Up w.drew W → (∀ b ∈ bs, ∃ B, Hg (g b.sa) B ∧ w.drew.heap.size ≤ B ∧ Blk W B (g b.sv).cells T) → (bs.Pairwise fun b c => ∀ B, Hg (g b.sa) B → ¬ Hg (g c.sa) B) → (∀ i o d, i < k → opsL[i]? = some o → o.dst = some d → (Dc.getD i (.eq undef)).holds (g d) W) → LW R m P n ds opsL.toArray Q (opsL.drop k) (keep.map (fun d => (d, .eq (g d))) ++ l) W) :
   CW R m P n ds (.region id opsL.toArray true) Q l w := by
 have hks' : k ≤ opsL.length := by have := Nat.le_of_ble_eq_true hks; simp at this; omega
 have sub : ∀ j o, j < k → opsL.toArray[j]? = some o → (opsL.take k)[j]? = some o := fun j o hjk ho => by
   rw [List.getElem?_take_of_lt hjk]; simpa using ho
 have hbd : ∀ i ph, lk l i = some ph → ∀ (j : Nat) (o : Oper), 0 ≤ j → j < k → opsL.toArray[j]? = some o → o.dst ≠ some i := fun i ph hi j o _ hjk ho => Fk hfree hi (List.mem_of_getElem? (sub j o hjk ho))
 have toL : ∀ (i : Nat) (o : Oper), opsL.toArray[i]? = some o → opsL[i]? = some o := fun i o h => by simpa using h
 refine Eg hm hl fun fuel listed a hf hu ha => ?_
 refine AWF.vars (k := k) (bs := bs) (T := T) (z := z) (fun i => Dc.getD i (.eq undef)) (f0 := fun t => a.tmps.getD t undef) hz hs (fun i v w w' h u => (hph.at i) v w w' h u) hA hC hF hks hD hl hbd hv (List.pairwise_map.1 hnd) (fun b hb => List.all_eq_true.1 hlit b hb) ?_ ?_ ?_ (fun b hb o ho => hlk b hb o (toL _ _ ho)) hsv hpa ?_ ?_ fuel listed a hf hu ha (fun _ => rfl)
 · intro b hb
   have := List.all_eq_true.1 hk b hb
   simp only [Bool.and_eq_true] at this
   exact ⟨Nat.le_of_ble_eq_true this.1, Nat.le_of_ble_eq_true this.2⟩
 · intro b hb
   obtain ⟨ty, ps, af, h⟩ := hia b hb
   exact ⟨ty, ps, af, by simpa using h⟩
 · intro b hb
   obtain ⟨ty, ps, af, h⟩ := his b hb
   exact ⟨ty, ps, af, by simpa using h⟩
 · intro i o hi hn ho
   have h0 := (hop w.drew (KeepT.refl T _)).at (sub i o hi ho)
   rw [Nat.zero_add] at h0
   rcases h0 with ⟨b, hb, e | e⟩ | ⟨hg, _⟩
   · exact absurd e (hn b hb).1
   · exact absurd e (hn b hb).2
   refine ⟨hg, fun W hW a ha => ?_⟩
   have h3 := (hop W hW).at (sub i o hi ho)
   rw [Nat.zero_add] at h3
   rcases h3 with ⟨b, hb, e | e⟩ | ⟨_, h⟩
   · exact absurd e (hn b hb).1
   · exact absurd e (hn b hb).2
   exact h a ha
 intro f W hUp hblk hpw fuel' listed' a' hf' hu' ha' hsl'
 have key : ∀ i o d, i < k → opsL[i]? = some o → o.dst = some d → (Dc.getD i (.eq undef)).holds (f d) W := by
   intro i o d hik ho hd
   have ho' : opsL.toArray[i]? = some o := by simpa using ho
   have hmem : (d, Dc.getD i (.eq undef)) ∈ Gn opsL.toArray (fun i => Dc.getD i (.eq undef)) 0 k := by
     unfold Gn
     rw [List.mem_filterMap]
     exact ⟨i, List.mem_range.2 hik, by rw [if_pos (by simp), ho']; simp [hd]⟩
   obtain ⟨q', hq⟩ := Gw hmem
   obtain ⟨j, p, _, hjk, hp, hpd, e⟩ := Et hq
   have : j = i := by
     by_cases ee : j = i
     · exact ee
     exact absurd hpd ((Cn hD (Nat.zero_le _) hik ho' hd).2 j p (Nat.zero_le _) hjk ee hp)
   subst this
   have := ha'.val d q' (J1 hq)
   rw [hsl', e] at this
   exact this
 refine Ej hTl hA (opsL.toArray.size - k) k fuel' listed' a' W rfl (by simp; omega) (Nat.le_refl _) hf' hu' ?_
 refine hend W f hUp hblk hpw key a' ⟨ha'.defers, ha'.size, fun t q ht => ?_⟩
 rcases C0 ht with h | h
 · obtain ⟨d, _, he⟩ := List.mem_map.1 (J0 h)
   cases he
   exact hsl' _
 refine ha'.val t q ?_
 rw [Fe]
 · exact h
 cases hq : lk (Gn opsL.toArray (fun i => Dc.getD i (.eq undef)) 0 k) t with
 | none => rfl
 | some q' =>
   obtain ⟨j, p, _, hjk, hp, hpd, _⟩ := Et hq
   exact absurd hpd (hbd t q h j p (Nat.zero_le _) hjk hp)
end
end Go.Wx
end
section
namespace Go.Wx
abbrev K2 := Int × Int
def Gc (a b : K2) : Bool := decide (a.1 < b.1) || (decide (a.1 = b.1) && decide (a.2 < b.2))
theorem Qe {a b : K2} : Gc a b = true ↔ a.1 < b.1 ∨ (a.1 = b.1 ∧ a.2 < b.2) := by simp [Gc]
theorem Lw {a b : K2} : Gc a b = false ↔ ¬ (a.1 < b.1 ∨ (a.1 = b.1 ∧ a.2 < b.2)) := by rw [← Qe]; simp
theorem J7 (a : K2) : Gc a a = false := by rw [Lw]; omega
theorem Ew {a b c : K2} (h : Gc b a = false) (k : Gc c b = false) : Gc c a = false := by rw [Lw] at *; omega
theorem Oy {a b : K2} (h : Gc a b = true) : Gc b a = false := by rw [Qe] at h; rw [Lw]; omega
theorem Lx {a b c : K2} (h : Gc a b = true) (k : Gc c b = false) : Gc a c = true := by rw [Qe] at *; rw [Lw] at k; omega
theorem Ns {a b c : K2} (h : Gc b a = false) (k : Gc b c = true) : Gc a c = true := by rw [Qe] at *; rw [Lw] at h; omega
theorem pN {a b : K2} (h : Gc a b = false) (k : Gc b a = false) : a = b := by rw [Lw] at *; exact Prod.ext oQ oQ
theorem Zd {a b : K2} (h : Gc a b = true) : a ≠ b := fun e => by rw [e, J7] at h; cases h
section
variable {α : Type} (key : α → K2)
def Hx (l : List α) : Prop := l.Pairwise fun x y => Gc (key y) (key x) = false
def sameF (l s : List α) : Prop := ∀ k, s.filter (fun x => key x == k) = l.filter (fun x => key x == k)
structure StS (l s : List α) : Prop where
 ord : Hx key s
 same : sameF key l s
end
section
variable {α : Type} {key : α → K2}
theorem sameF.refl (l : List α) : sameF key l l := fun _ => rfl
theorem sameF.trans {a b c : List α} (h : sameF key a b) (k : sameF key b c) : sameF key a c := fun x => (k x).trans (h x)
theorem sameF.dX {a b c d : List α} (h : sameF key a b) (k : sameF key c d) : sameF key (a ++ c) (b ++ d) := fun x => by rw [List.filter_append, List.filter_append, h x, k x]
theorem sameF.mem {a b : List α} (h : sameF key a b) (x : α) : x ∈ b ↔ x ∈ a := by
 have := h (key x)
 have e : ∀ l : List α, x ∈ l.filter (fun y => key y == key x) ↔ x ∈ l := fun l => by rw [List.mem_filter]; simp
 rw [← e b, ← e a, this]
theorem sameF.swap {U V : List α} (h : ∀ u ∈ U, ∀ v ∈ V, key u ≠ key v) : sameF key (U ++ V) (V ++ U) := fun k => by
 rw [List.filter_append, List.filter_append]
 by_cases e : U.filter (fun x => key x == k) = []
 · rw [e]; simp
 have e2 : V.filter (fun x => key x == k) = [] := by
   rw [List.filter_eq_nil_iff]
   intro v hv hk
   apply e
   rw [List.filter_eq_nil_iff]
   intro u hu hk2
   exact h u hu v hv ((eq_of_beq hk2).trans (eq_of_beq hk).symm)
 rw [e2]; simp
theorem sameF.perm : ∀ {a b : List α}, sameF key a b → b.Perm a
 | [], b, h => by
   have : b = [] := by
     cases b with
     | nil => rfl
     | cons x b => exact absurd ((h.mem x).1 List.mem_cons_self) (by simp)
   rw [this]
 | x :: a, b, h => by
   have hx : x ∈ b := (h.mem x).2 List.mem_cons_self
   -- the first of b with the key of x is x itself
   have hf := h (key x)
   rw [List.filter_cons, if_pos (by simp)] at hf
   obtain ⟨p, q, e, hp⟩ : ∃ p q, b = p ++ x :: q ∧ ∀ y ∈ p, key y ≠ key x := by
     clear hx
     induction b with
     | nil => simp at hf
     | cons y b ih =>
       by_cases hy : key y = key x
       · rw [List.filter_cons, if_pos (by simp [hy])] at hf
         injection hf with h1 h2
         subst h1
         exact ⟨[], b, rfl, by simp⟩
       rw [List.filter_cons, if_neg (by simp [hy])] at hf
       have : ∃ p q, b = p ++ x :: q ∧ ∀ y ∈ p, key y ≠ key x := by
         clear ih h
         induction b with
         | nil => simp at hf
         | cons z b ih =>
           by_cases hz : key z = key x
           · rw [List.filter_cons, if_pos (by simp [hz])] at hf
             injection hf with h1 h2
             subst h1
             exact ⟨[], b, rfl, by simp⟩
           rw [List.filter_cons, if_neg (by simp [hz])] at hf
           obtain ⟨p, q, e, hp⟩ := ih hf
           exact ⟨z :: p, q, by rw [e]; rfl, fun w hw => by
             rcases List.mem_cons.1 hw with rfl | hw
             · exact hz
             exact hp w hw⟩
       obtain ⟨p, q, e, hp⟩ := this
       exact ⟨y :: p, q, by rw [e]; rfl, fun w hw => by
         rcases List.mem_cons.1 hw with rfl | hw
         · exact hy
         exact hp w hw⟩
   subst e
   have h2 : sameF key a (p ++ q) := fun k => by
     have := h k
     by_cases hk : key x = k
     · subst hk
       have ep : p.filter (fun y => key y == key x) = [] := by rw [List.filter_eq_nil_iff]; intro y hy e; exact hp y hy (eq_of_beq e)
       simp only [List.filter_append, List.filter_cons, beq_self_eq_true, if_true, ep, List.nil_append, List.cons.injEq, true_and] at this ⊢
       exact this
     have hk' : (key x == k) = false := by simpa using hk
     simpa only [List.filter_append, List.filter_cons, hk', Bool.false_eq_true, if_false] using this
   exact List.perm_middle.trans ((sameF.perm h2).cons x)
theorem sameF.length {a b : List α} (h : sameF key a b) : b.length = a.length := h.perm.length_eq
theorem StS.unique : ∀ {l s t : List α}, StS key l s → StS key l t → s = t
 | l, [], [], _, _ => rfl
 | l, [], y :: t, h, k => by have := h.same.length.trans k.same.length.symm; simp at this
 | l, x :: s, [], h, k => by have := h.same.length.trans k.same.length.symm; simp at this
 | l, x :: s, y :: t, h, k => by
   have hx := (List.pairwise_cons.1 h.ord)
   have hy := (List.pairwise_cons.1 k.ord)
   have mx : x ∈ y :: t := (k.same.mem x).2 ((h.same.mem x).1 List.mem_cons_self)
   have my : y ∈ x :: s := (h.same.mem y).2 ((k.same.mem y).1 List.mem_cons_self)
   have a1 : Gc (key x) (key y) = false := by
     rcases List.mem_cons.1 mx with e | e
     · rw [e]; exact J7 _
     exact hy.1 x e
   have a2 : Gc (key y) (key x) = false := by
     rcases List.mem_cons.1 my with e | e
     · rw [e]; exact J7 _
     exact hx.1 y e
   have ek := pN a1 a2
   have hf := (h.same (key x)).trans (k.same (key x)).symm
   rw [List.filter_cons, if_pos (by simp), List.filter_cons, if_pos (by simp [ek])] at hf
   injection hf with h1 h2
   subst h1
   have hst : sameF key t s := fun q => by
     have := (h.same q).trans (k.same q).symm
     simp only [List.filter_cons] at this
     split at this
     · injection this
     exact this
   rw [StS.unique (l := t) ⟨hx.2, hst⟩ ⟨hy.2, sameF.refl t⟩]
theorem StS.refl {l : List α} (h : Hx key l) : StS key l l := ⟨h, sameF.refl l⟩
theorem StS.put {A : List α} {x : α} {j : Nat} (hA : Hx key A) (hj : ∀ y ∈ A.drop j, Gc (key x) (key y) = true) (hl : ∀ y ∈ A.take j, Gc (key x) (key y) = false) : StS key (A ++ [x]) (A.take j ++ x :: A.drop j) := by
 have h := List.pairwise_append.1 (show (A.take j ++ A.drop j).Pairwise fun x y => Gc (key y) (key x) = false by rw [List.take_append_drop]; exact hA)
 refine ⟨List.pairwise_append.2 ⟨h.1, List.pairwise_cons.2 ⟨fun y hy => Oy (hj y hy), h.2.1⟩, fun a ha b hb => ?_⟩, ?_⟩
 · rcases List.mem_cons.1 hb with rfl | hb
   · exact hl a ha
   exact h.2.2 a ha b hb
 have := (sameF.refl (key := key) (A.take j)).dX (sameF.swap (key := key) (U := A.drop j) (V := [x]) (fun u hu v hv => by
   simp at hv; subst hv
   exact fun e => Zd (hj u hu) e.symm))
 rw [← List.append_assoc, List.take_append_drop] at this
 simpa using this
theorem iG {A : List α} {x : α} {j : Nat} (hA : Hx key A) (hj : ∀ y ∈ A.take j, Gc (key y) (key x) = true) (hl : ∀ y ∈ A.drop j, Gc (key y) (key x) = false) : StS key (x :: A) (A.take j ++ x :: A.drop j) := by
 have h := List.pairwise_append.1 (show (A.take j ++ A.drop j).Pairwise fun x y => Gc (key y) (key x) = false by rw [List.take_append_drop]; exact hA)
 refine ⟨List.pairwise_append.2 ⟨h.1, List.pairwise_cons.2 ⟨hl, h.2.1⟩, fun a ha b hb => ?_⟩, ?_⟩
 · rcases List.mem_cons.1 hb with rfl | hb
   · exact Oy (hj a ha)
   exact h.2.2 a ha b hb
 have := (sameF.swap (key := key) (U := [x]) (V := A.take j) (fun u hu v hv => by
   simp at hu; subst hu
   exact fun e => Zd (hj v hv) e.symm)).dX (sameF.refl (key := key) (A.drop j))
 rw [List.append_assoc, List.append_assoc, List.take_append_drop] at this
 simpa using this
theorem Ze {L1 U V R2 X Y : List α} (hL : Hx key (L1 ++ U)) (hR : Hx key (V ++ R2)) (h1 : ∀ x ∈ L1, ∀ y ∈ R2, Gc (key y) (key x) = false) (h2 : ∀ v ∈ V, ∀ u ∈ U, Gc (key v) (key u) = true)
   (hX : StS key (L1 ++ V) X) (hY : StS key (U ++ R2) Y) : StS key (L1 ++ U ++ (V ++ R2)) (X ++ Y) := by
 refine ⟨List.pairwise_append.2 ⟨hX.ord, hY.ord, fun x hx y hy => ?_⟩, ?_⟩
 · have hx := (hX.same.mem x).1 hx
   have hy := (hY.same.mem y).1 hy
   have a := (List.pairwise_append.1 hL).2.2
   have b := (List.pairwise_append.1 hR).2.2
   rcases List.mem_append.1 hx with hx | hx <;> rcases List.mem_append.1 hy with hy | hy
   · exact a x hx y hy
   · exact h1 x hx y hy
   · exact Oy (h2 x hx y hy)
   exact b x hx y hy
 have s1 : sameF key (U ++ V) (V ++ U) := sameF.swap fun u hu v hv e => Zd (h2 v hv u hu) e.symm
 have s2 := ((sameF.refl (key := key) L1).dX s1).dX (sameF.refl (key := key) R2)
 have s3 := hX.same.dX hY.same
 intro k
 have a := s3 k
 have b := s2 k
 simp only [List.filter_append, List.append_assoc] at a b ⊢
 rw [a, b]
end
section
variable {α : Type}
def Bq (xs : List α) (a b : Nat) : List α := (xs.take b).drop a
theorem Aq {xs : List α} {a b : Nat} (hb : b ≤ xs.length) : (Bq xs a b).length = b - a := by simp [Bq]; omega
theorem F0 {xs : List α} {a b i : Nat} (h : a + i < b) : (Bq xs a b)[i]? = xs[a + i]? := by simp [Bq, List.getElem?_drop, h]
theorem Fl {xs : List α} {a m b : Nat} (h1 : a ≤ m) (h2 : m ≤ b) (hb : b ≤ xs.length) : Bq xs a b = Bq xs a m ++ Bq xs m b := by
 unfold Bq
 have : xs.take b = xs.take m ++ (xs.take b).drop m := by
   conv => lhs; rw [← List.take_append_drop m (xs.take b)]
   rw [List.take_take, Nat.min_eq_left h2]
 rw [this, List.drop_append]
 have e : a - (xs.take m).length = 0 := by simp; omega
 rw [e, List.drop_zero, ← this]
theorem mI {xs : List α} : Bq xs 0 xs.length = xs := by simp [Bq]
theorem Fm {xs : List α} {a b : Nat} (h : b ≤ a) : Bq xs a b = [] := by
 unfold Bq
 rw [List.drop_eq_nil_iff]
 simp; omega
theorem bK {xs : List α} {a b : Nat} (h1 : a ≤ b) (hb : b ≤ xs.length) : xs = xs.take a ++ Bq xs a b ++ xs.drop b := by
 have h := Fl (xs := xs) (a := 0) (m := a) (b := b) (Nat.zero_le _) h1 hb
 have e1 : Bq xs 0 a = xs.take a := by simp [Bq]
 have e2 : Bq xs 0 b = xs.take b := by simp [Bq]
 rw [e1, e2] at h
 rw [← h, List.take_append_drop]
def Cw (xs : List α) (a b : Nat) (ys : List α) : List α := xs.take a ++ ys ++ xs.drop b
theorem A9 {xs ys : List α} {a b : Nat} (h1 : a ≤ b) (hb : b ≤ xs.length) (hy : ys.length = b - a) : (Cw xs a b ys).length = xs.length := by simp [Cw]; omega
theorem Df {xs : List α} {a b : Nat} (h1 : a ≤ b) (hb : b ≤ xs.length) : Cw xs a b (Bq xs a b) = xs := (bK h1 hb).symm
theorem E0 {xs ys : List α} {a b : Nat} (h1 : a ≤ b) (hb : b ≤ xs.length) (hy : ys.length = b - a) (i : Nat) : (Cw xs a b ys)[i]? = if i < a then xs[i]? else if i < b then ys[i - a]? else xs[i]? := by
 unfold Cw
 by_cases h : i < a
 · rw [if_pos h, List.append_assoc, List.getElem?_append_left (by simp; omega), List.getElem?_take, if_pos h]
 rw [if_neg h]
 by_cases h2 : i < b
 · rw [if_pos h2, List.getElem?_append_left (by simp; omega), List.getElem?_append_right (by simp; omega)]
   congr 1; simp; omega
 rw [if_neg h2, List.getElem?_append_right (by simp; omega), List.getElem?_drop]
 congr 1; simp; omega
theorem bL {xs ys : List α} {a b : Nat} (h1 : a ≤ b) (hb : b ≤ xs.length) (hy : ys.length = b - a) : Bq (Cw xs a b ys) a b = ys := by
 apply List.ext_getElem?
 intro i
 by_cases h : a + i < b
 · rw [F0 h, E0 h1 hb hy, if_neg oQ, if_pos h]; congr 1; omega
 rw [List.getElem?_eq_none (by rw [Aq (by rw [A9 h1 hb hy]; exact hb)]; omega), List.getElem?_eq_none (by omega)]
theorem Eh {xs ys : List α} {a b c d : Nat} (h1 : a ≤ b) (hb : b ≤ xs.length) (hy : ys.length = b - a) (h : d ≤ a ∨ b ≤ c) : Bq (Cw xs a b ys) c d = Bq xs c d := by
 apply List.ext_getElem?
 intro i
 unfold Bq
 rw [List.getElem?_drop, List.getElem?_drop, List.getElem?_take, List.getElem?_take]
 split
 · rw [E0 h1 hb hy]
   split
   · rfl
   split
   · omega
   rfl
 rfl
theorem bM {xs ys zs : List α} {a m b : Nat} (h1 : a ≤ m) (h2 : m ≤ b) (hb : b ≤ xs.length) (hy : ys.length = m - a) (hz : zs.length = b - m) : Cw (Cw xs a m ys) m b zs = Cw xs a b (ys ++ zs) := by
 apply List.ext_getElem?
 intro i
 rw [E0 h2 (by rw [A9 h1 oQ hy]; exact hb) hz, E0 h1 oQ hy, E0 oQ hb (by simp; omega)]
 by_cases c1 : i < a
 · rw [if_pos oQ, if_pos c1, if_pos c1]
 by_cases c2 : i < m
 · rw [if_pos c2, if_neg c1, if_pos c2, if_neg c1, if_pos oQ, List.getElem?_append_left (by omega)]
 rw [if_neg c2, if_neg c1, if_neg c2]
 by_cases c3 : i < b
 · rw [if_pos c3, if_neg c1, if_pos c3, List.getElem?_append_right (by omega)]; congr 1; omega
 rw [if_neg c3, if_neg c1, if_neg c3]
variable {key : α → K2}
theorem sameF.Cw {xs ys : List α} {a b : Nat} (h1 : a ≤ b) (hb : b ≤ xs.length) (h : sameF key (Bq xs a b) ys) : sameF key xs (Wx.Cw xs a b ys) := by
 have h2 := ((sameF.refl (key := key) (xs.take a)).dX h).dX (sameF.refl (key := key) (xs.drop b))
 rw [← bK h1 hb] at h2
 exact h2
end
end Go.Wx
end
section
namespace Go.Wx
open Go.RowKit
theorem OwnS.at {α : Type} {enc : α → Array Value} {b k : Nat} {e : TypeId} {w : World} {g m cp : Nat} {xs : List α} (h : OwnS w b e k enc (.slice (some ⟨g, 0, none⟩) m cp) xs) (hk : ∀ x, (enc x).size = k) {i : Nat} {x : α} (hx : xs[i]? = some x) : AggAt w g (0 + i * k) (enc x) := by
 obtain ⟨ad, c, e', hE⟩ := h.sl hk
 obtain ⟨B, o, h1, h2⟩ := hE i x hx
 cases e'
 cases h1
 exact h2
theorem OwnS.len {α : Type} {enc : α → Array Value} {b k : Nat} {e : TypeId} {w : World} {ad : Option Addr} {m cp : Nat} {xs : List α} (h : OwnS w b e k enc (.slice ad m cp) xs) : xs.length = m := by
 obtain ⟨_, ⟨e', h1⟩ | ⟨g, cap, cur, e', _⟩⟩ := h
 · cases e'; exact h1
 cases e'; rfl
theorem Wo {α : Type} (f : α → List Value) (k : Nat) (hf : ∀ x, (f x).length = k) : ∀ (xs : List α) (i : Nat) (y : α), i < xs.length → (xs.set i y).flatMap f = (xs.flatMap f).take (i * k) ++ f y ++ (xs.flatMap f).drop (i * k + k)
 | [], _, _, h => by simp at h
 | x :: xs, 0, y, _ => by
   rw [List.set_cons_zero, List.flatMap_cons, List.flatMap_cons, Nat.zero_mul, List.take_zero, List.nil_append, Nat.zero_add, List.drop_left' (hf x)]
 | x :: xs, i + 1, y, h => by
   rw [List.set_cons_succ, List.flatMap_cons, List.flatMap_cons, Wo f k hf xs i y (by simpa using h)]
   have e1 : (i + 1) * k = (f x).length + i * k := by rw [hf, Nat.add_mul, Nat.one_mul, Nat.add_comm]
   have e2 : (i + 1) * k + k = (f x).length + (i * k + k) := by rw [e1, Nat.add_assoc]
   rw [e1, Nat.add_assoc, List.take_length_add_append, List.drop_length_add_append]
   simp [List.append_assoc]
section
variable {P : Program} {n : Nat} {ds : List Deferred} {l : Env} {w : World} {ty : TypeId} {ps : String} {af : Array Edge} {g : Option (Nat × Bool)}
theorem Uy {α : Type} {enc : α → Array Value} {k b : Nat} {e T : TypeId} {x y : Operand} {B m cp i : Nat} {xs : List α} {z : α} (hs : ∀ w, (sizeOf T).run P w = .ok k w) (hk : ∀ x, (enc x).size = k) (h1 : ∀ x, (enc x).all (·.oneCell') = true) (hx : Val l x (.pointer (some ⟨B, 0 + i * k, none⟩))) (hy : Val l y (.agg (enc z))) (ho : OwnS w b e k enc (.slice (some ⟨B, 0, none⟩) m cp) xs) (hi : i < m) :
   SEv P n ds l w ⟨none, .store T x y, ty, ps, af, g⟩ (fun w' => OwnS w' b e k enc (.slice (some ⟨B, 0, none⟩) m cp) (xs.set i z) ∧ Fr (· = B) w w' ∧ w'.heap.size = w.heap.size) := fun a ha => by
 have hkl : ∀ x, (enc x).toList.length = k := fun x => by rw [Array.length_toList, hk]
 have hfl := Ef (fun x => (enc x).toList) k hkl xs
 obtain ⟨hl, ⟨e', _⟩ | ⟨g', cap, cur, e', hb, hg, hcap, hcm, hcs, htk⟩⟩ := ho
 · cases e'
 cases e'
 have hik : i * k + k ≤ xs.length * k := by
   have : (i + 1) * k ≤ xs.length * k := Nat.mul_le_mul_right k hi
   rw [Nat.add_mul, Nat.one_mul] at this
   exact this
 have hmk : xs.length * k ≤ cp * k := Nat.mul_le_mul_right k oQ
 obtain ⟨w', hr, hset⟩ := Ss (P := P) (n := n) (ds := ds) (l := l) (w := w) (ty := ty) (ps := ps) (af := af) (g := g) hs (hk z) hx hy (h1 z) (show Blk w B cur e from hg) (by rw [hk, hcs]; omega) a ha
 refine ⟨w', hr, ⟨by rw [List.length_set, Ef _ k hkl, List.length_set], .inr ⟨B, cp, _, by rw [List.length_set], hb, hset.blk, by rw [List.length_set]; omega, hcm, ?_, ?_⟩⟩, hset.sto.fr, hset.size⟩
 · have hz := hkl z
   simp only [Nl, List.size_toArray, List.length_append, List.length_take, List.length_drop, Array.length_toList]
   rw [Array.length_toList] at hz
   omega
 have hz := hkl z
 rw [List.length_set, Wo _ k hkl xs i z (by omega)]
 simp only [Nl]
 rw [hz, Nat.zero_add, List.take_append, List.take_append]
 have hcl : cur.toList.length = cp * k := by rw [Array.length_toList]; exact hcs
 have t1 : (cur.toList.take (i * k)).take (xs.length * k) = cur.toList.take (i * k) := by rw [List.take_take, Nat.min_eq_right (by omega)]
 have t2 : (cur.toList.take (i * k)).length = i * k := by rw [List.length_take]; omega
 have t3 : ((enc z).toList).take (xs.length * k - i * k) = (enc z).toList := List.take_of_length_le oQ
 have t4 : (cur.toList.take (i * k) ++ (enc z).toList).length = i * k + k := by rw [List.length_append, t2, hz]
 rw [t1, t2, t3, t4]
 have s1 : (xs.flatMap fun x => (enc x).toList).take (i * k) = cur.toList.take (i * k) := by rw [← htk, List.take_take, Nat.min_eq_left (by omega)]
 have s2 : (xs.flatMap fun x => (enc x).toList).drop (i * k + k) = (cur.toList.drop (i * k + k)).take (xs.length * k - (i * k + k)) := by rw [← htk, List.drop_take]
 rw [s1, s2]
theorem SEv.Cs {α : Type} {enc : α → Array Value} {k : Nat} {e T : TypeId} {x y : Operand} {B m cp i : Nat} {xs : List α} {z : α} (hs : ∀ w, (sizeOf T).run P w = .ok k w) (hk : ∀ x, (enc x).size = k) (h1 : ∀ x, (enc x).all (·.oneCell') = true) (hx : Val l x (.pointer (some ⟨B, 0 + i * k, none⟩))) (hy : Val l y (.agg (enc z))) (ho : OwnS w 0 e k enc (.slice (some ⟨B, 0, none⟩) m cp) xs) (hi : i < m) :
   SEv P n ds l w ⟨none, .store T x y, ty, ps, af, g⟩ (fun w' => Stp (Ai e k enc (.slice (some ⟨B, 0, none⟩) m cp) xs) (Ai e k enc (.slice (some ⟨B, 0, none⟩) m cp) (xs.set i z)) w w') := fun a ha =>
 let ⟨w', hr, h2, h3, _⟩ := Uy (ty := ty) (ps := ps) (af := af) (g := g) hs hk h1 hx hy ho hi a ha
 ⟨w', hr, ⟨h3.mono (fun i (e : i = B) => by rw [e]; rfl), h2, fun _ h => .inl h⟩⟩
end
section
variable {P : Program} {n : Nat} {ds : List Deferred} {l : Env} {w : World} {d : Option Tmp} {ty : TypeId} {ps : String} {af : Array Edge} {g : Option (Nat × Bool)}
theorem PEv.Gd {T T' : TypeId} {x y : Operand} {i j : Nat} (hx : Val l x (.int .i64 (i : Int))) (hy : Val l y (.int .i64 (j : Int))) (h : j ≤ i) (h2 : i < 9223372036854775807) : PEv P n ds l w ⟨d, .binOp .sub T x y T', ty, ps, af, g⟩ (.int .i64 ((i - j : Nat) : Int)) := by
 have := PEv.sub (P := P) (n := n) (ds := ds) (l := l) (w := w) (d := d) (ty := ty) (ps := ps) (af := af) (g := g) (T := T) (T' := T') hx hy oQ oQ
 rw [Int.ofNat_sub h]; exact this
theorem PEv.Cl {T e k : Nat} {x ix : Operand} {B o size : Nat} {j : Nat} (hT : P.underlying T = some (.array k e)) (hs : ∀ w, (sizeOf e).run P w = .ok size w) (hx : Val l x (.pointer (some ⟨B, o, none⟩))) (hi : Val l ix (.int .i64 (j : Int))) (hj : j < k) :
   PEv P n ds l w ⟨d, .indexAddr T x ix, ty, ps, af, g⟩ (.pointer (some ⟨B, o + j * size, none⟩)) := fun a w' ha _ => by
 refine Br ?_
 rw [ha.ev hx, ha.ev hi]
 have h0 : (0 : Int) ≤ (j : Int) ∧ (j : Int) < (k : Int) := ⟨by omega, by omega⟩
 simp [Instr.indexAt, asIntOf, run_underlying hT, Sem.run_bind, Instr.sureAddr, hs, Fs, hj]
theorem PEv.dec {T T' : TypeId} {x : Operand} {i : Nat} (hx : Val l x (.int .i64 (i : Int))) (h : 1 ≤ i) (h2 : i < 9223372036854775807) : PEv P n ds l w ⟨d, .binOp .sub T x (.const (.int .i64 1)) T', ty, ps, af, g⟩ (.int .i64 ((i - 1 : Nat) : Int)) := by
 have := PEv.sub (P := P) (n := n) (ds := ds) (l := l) (w := w) (d := d) (ty := ty) (ps := ps) (af := af) (g := g) (T := T) (T' := T') hx (.const (.int .i64 1)) oQ oQ
 rw [Int.ofNat_sub h]; exact this
end
theorem SEv.mono {P : Program} {n : Nat} {ds : List Deferred} {l : Env} {w : World} {o : Oper} {Post Post' : World → Prop} (h : SEv P n ds l w o Post) (k : ∀ w', Post w' → Post' w') : SEv P n ds l w o Post' := fun a ha => let ⟨w', h1, h2⟩ := h a ha; ⟨w', h1, k w' h2⟩
def Qf (ops : Array Oper) (i s : Nat) : Bool := match ops[s]? with
 | none => false
 | some o => o.after.any fun e => Region.binds .any e && Nat.beq e.on i
theorem Ri {ops : Array Oper} {i s : Nat} (h : Qf ops i s = true) : ∃ o, ops[s]? = some o ∧ ∃ e ∈ o.after, Region.binds .any e = true ∧ e.on = i := by
 unfold Qf at h
 cases ho : ops[s]? with
 | none => rw [ho] at h; cases h
 | some o =>
   rw [ho] at h
   obtain ⟨q, hq, h2⟩ := Array.any_eq_true.1 h
   simp only [Bool.and_eq_true] at h2
   exact ⟨o, rfl, _, Array.getElem_mem hq, h2.1, Nat.eq_of_beq_eq_true h2.2⟩
section
variable {R : Option Nat} {m : Nat} {P : Program} {n : Nat} {ds : List Deferred} {Q : Exit → Go.Act → World → Prop} {l : Env} {w : World} {ops : Array Oper}
theorem E2 {id : Nat} {opsL : List Oper} (s1 s2 : Nat) (vs : List Value) (A0 A1 A2 : World → Prop) (hm : P.follows .mixedOrders = true) (hl : Bj l = true)
   (hA : Dd opsL.toArray = true) (hF : H8 opsL.toArray opsL.toArray.size = true) (hD : F5 n opsL.toArray 0 opsL.toArray.size = true) (hs : Qf opsL.toArray s1 s2 = true) (hns : Nat.beq s1 s2 = false)
   (hfree : I9 l opsL = true) (h0 : A0 w.drew)
   (hop : allL (fun i o => (i = s1 ∨ i = s2) ∨ (o.guard = none ∧ ((Qf opsL.toArray i s1 = true ∧ ∀ W, A0 W → PEv P n ds (Je opsL.toArray (fun i => .eq (vs.getD i undef)) 0 o ++ l) W o (vs.getD i undef)) ∨ ∀ W, PEv P n ds (Je opsL.toArray (fun i => .eq (vs.getD i undef)) 0 o ++ l) W o (vs.getD i undef)))) 0 opsL)
   (o1 o2 : Oper) (ho1 : opsL[s1]? = some o1) (ho2 : opsL[s2]? = some o2) (hg1 : o1.guard = none ∧ o1.dst = none) (hg2 : o2.guard = none ∧ o2.dst = none)
   (hs1 : ∀ W, A0 W → SEv P n ds (Je opsL.toArray (fun i => .eq (vs.getD i undef)) 0 o1 ++ l) W o1 A1) (hs2 : ∀ W, A1 W → SEv P n ds (Je opsL.toArray (fun i => .eq (vs.getD i undef)) 0 o2 ++ l) W o2 A2)
   (hend : ∀ W, A2 W → KW n ds (Q .normal) l W) : CW R m P n ds (.region id opsL.toArray true) Q l w := by
 have hsz : opsL.toArray.size = opsL.length := by simp
 have hbd : ∀ i ph, lk l i = some ph → ∀ (j : Nat) (o : Oper), 0 ≤ j → j < opsL.toArray.size → opsL.toArray[j]? = some o → o.dst ≠ some i := fun i ph hi j o _ hjk ho => Fk hfree hi (List.mem_of_getElem? (by simpa using ho))
 obtain ⟨p2, hp2, e2, he2, hb2, hon2⟩ := Ri hs
 have ho1' : opsL.toArray[s1]? = some o1 := by simpa using ho1
 have ho2' : opsL.toArray[s2]? = some o2 := by simpa using ho2
 have : p2 = o2 := by rw [ho2'] at hp2; cases hp2; rfl
 subst this
 have hl1 : s1 < opsL.toArray.size := (Array.getElem?_eq_some_iff.1 ho1').1
 have hl2 : s2 < opsL.toArray.size := (Array.getElem?_eq_some_iff.1 ho2').1
 have hne : s1 ≠ s2 := fun e => by subst e; simp at hns
 refine Eg hm hl fun fuel listed a hf hu ha => ?_
 refine AWF.gen (s := 0) (k := opsL.toArray.size) (fun i => .eq (vs.getD i undef)) (fun _ _ => True) (fun L _ W => if L s2 = true then A2 W else if L s1 = true then A1 W else A0 W) (f0 := fun t => a.tmps.getD t undef) (fun _ => trivial) (fun _ _ _ _ _ => trivial) (fun _ _ _ _ h _ => h) hA (by simp) hF (by simp) (by simp) hD hl hbd ?_ ?_ ?_ fuel listed a hf hu ha (fun _ => rfl)
 · intro i o _ hi hio L f W _ hDn hLi hed hInv a ha hsl
   have hio' : opsL[i]? = some o := by simpa using hio
   by_cases e1 : i = s1
   · subst e1
     rw [ho1'] at hio; cases hio
     rw [if_pos (by simp [Region.wanted, hg1.1])]
     have n2 : L s2 = false := by
       cases h : L s2 with
       | false => rfl
       | true => have := hDn s2 _ ho2' h e2 he2 hb2; rw [hon2, hLi] at this; cases this
     rw [n2, hLi] at hInv
     obtain ⟨W', hr, hp⟩ := hs1 W hInv a ha
     refine .inr ⟨W', hr, trivial, (fun d hd => by rw [hg1.2] at hd; cases hd), ?_⟩
     have t1 : Bk L i s2 = false := by simp [Bk, Ne.symm hne, n2]
     have t2 : Bk L i i = true := by simp [Bk]
     rw [t1, t2]
     exact hp
   by_cases e3 : i = s2
   · subst e3
     rw [ho2'] at hio; cases hio
     rw [if_pos (by simp [Region.wanted, hg2.1])]
     have y1 : L s1 = true := by have := hed e2 he2 hb2; rwa [hon2] at this
     rw [hLi, y1] at hInv
     obtain ⟨W', hr, hp⟩ := hs2 W hInv a ha
     refine .inr ⟨W', hr, trivial, (fun d hd => by rw [hg2.2] at hd; cases hd), ?_⟩
     have t2 : Bk L i i = true := by simp [Bk]
     rw [t2]
     exact hp
   have h3 := hop.at hio'
   rw [Nat.zero_add] at h3
   rcases h3 with (h | h) | ⟨hg, h3⟩
   · exact absurd h e1
   · exact absurd h e3
   rw [if_pos (by simp [Region.wanted, hg])]
   have q1 : Bk L i s1 = L s1 := by simp [Bk, Ne.symm e1]
   have q2 : Bk L i s2 = L s2 := by simp [Bk, Ne.symm e3]
   have hr : (execOp a.eval o).run P W = .ok (.value (vs.getD i undef)) W := by
     rcases h3 with ⟨hE, h3⟩ | h3
     · obtain ⟨p, hp, e, he, hb, hon⟩ := Ri hE
       have n1 : L s1 = false := by
         cases h : L s1 with
         | false => rfl
         | true => have := hDn s1 p hp h e he hb; rw [hon, hLi] at this; cases this
       have n2 : L s2 = false := by
         cases h : L s2 with
         | false => rfl
         | true => have := hDn s2 _ ho2' h e2 he2 hb2; rw [hon2, n1] at this; cases this
       rw [n1, n2] at hInv
       exact h3 W hInv a W ha (Up.refl W)
     exact h3 W a W ha (Up.refl W)
   refine .inl (.inl ⟨_, W, hr, trivial, fun _ _ => rfl, ?_⟩)
   rw [q1, q2]
   exact hInv
 · simpa using h0
 intro f W _ hInv fuel' listed' a' hf' hu' ha' hsl'
 have hInv : A2 W := by
   dsimp only at hInv
   rw [if_pos (decide_eq_true hl2)] at hInv
   exact hInv
 have hall : ∀ j, j < opsL.toArray.size → listed'.getD j false = true := fun j hj => by rw [hu'.2 j hj]; simpa using hj
 have hrd : Region.ready .any opsL.toArray listed' = [] := by
   rw [List.eq_nil_iff_forall_not_mem]
   intro i hi
   obtain ⟨o, hio, hbi, _⟩ := (E8 hu'.1).1 hi
   have := hall i (Array.getElem?_eq_some_iff.1 hio).1
   rw [hbi] at this; cases this
 have hq : Q .normal a' W := hend W hInv a' ⟨ha'.defers, ha'.size, fun t q ht => by
   refine ha'.val t q ?_
   rw [Fe]
   · exact ht
   cases hq : lk (Gn opsL.toArray (fun i => .eq (vs.getD i undef)) 0 opsL.toArray.size) t with
   | none => rfl
   | some q' =>
     obtain ⟨j, p, _, hjk, hp, hpd, _⟩ := Et hq
     exact absurd hpd (hbd t q ht j p (Nat.zero_le _) hjk hp)⟩
 cases fuel' with
 | zero => exact ⟨hrd, hq⟩
 | succ fuel' => exact ⟨fun _ => hq, fun i hi => by rw [hrd] at hi; cases hi⟩
end
end Go.Wx
end
section
namespace Go.Wx
section
variable {α : Type}
def swp (xs : List α) (i j : Nat) : List α := match xs[i]?, xs[j]? with
 | some x, some y => (xs.set i y).set j x
 | _, _ => xs
theorem Mr (xs : List α) (i j : Nat) : (swp xs i j).length = xs.length := by
 unfold swp
 split <;> simp
theorem Rj {xs : List α} {i j : Nat} {x y : α} (hi : xs[i]? = some x) (hj : xs[j]? = some y) : swp xs i j = (xs.set i y).set j x := by
 unfold swp; rw [hi, hj]
theorem swp_get {xs : List α} {i j : Nat} (hi : i < xs.length) (hj : j < xs.length) (q : Nat) : (swp xs i j)[q]? = if q = j then xs[i]? else if q = i then xs[j]? else xs[q]? := by
 rw [Rj (List.getElem?_eq_getElem hi) (List.getElem?_eq_getElem hj), List.getElem?_set]
 by_cases h1 : j = q
 · subst h1
   rw [if_pos rfl, if_pos (by simpa using hj), if_pos rfl, List.getElem?_eq_getElem hi]
 rw [if_neg h1, if_neg (Ne.symm h1), List.getElem?_set]
 by_cases h2 : i = q
 · subst h2
   rw [if_pos rfl, if_pos hi, if_pos rfl, List.getElem?_eq_getElem hj]
 rw [if_neg h2, if_neg (Ne.symm h2)]
def Kr (xs : List α) (a b : Nat) : Nat → List α
 | 0 => xs
 | n + 1 => swp (Kr xs a b n) (a + n) (b + n)
theorem C5 (xs : List α) (a b : Nat) : ∀ n, (Kr xs a b n).length = xs.length
 | 0 => rfl
 | n + 1 => by rw [Kr, Mr, C5 xs a b n]
theorem Ly {xs : List α} {a b : Nat} : ∀ {n : Nat}, a + n ≤ b → b + n ≤ xs.length → ∀ q, (Kr xs a b n)[q]? = if a ≤ q ∧ q < a + n then xs[q - a + b]? else if b ≤ q ∧ q < b + n then xs[q - b + a]? else xs[q]?
 | 0, _, _, q => by rw [Kr, if_neg oQ, if_neg (by omega)]
 | n + 1, h1, h2, q => by
   rw [Kr, swp_get (by rw [C5]; omega) (by rw [C5]; omega)]
   rw [Ly (n := n) oQ oQ (a + n), Ly (n := n) oQ oQ (b + n), Ly (n := n) oQ oQ q]
   by_cases c1 : q = b + n
   · rw [if_pos c1, if_neg oQ, if_neg oQ, if_neg oQ, if_pos (by omega)]
     congr 1; omega
   rw [if_neg c1]
   by_cases c2 : q = a + n
   · rw [if_pos c2, if_neg oQ, if_neg oQ, if_pos (by omega)]
     congr 1; omega
   rw [if_neg c2]
   by_cases c3 : a ≤ q ∧ q < a + n
   · rw [if_pos c3, if_pos (by omega)]
   have e1 : ¬ (a ≤ q ∧ q < a + (n + 1)) := by omega
   rw [if_neg c3, if_neg e1]
   by_cases c4 : b ≤ q ∧ q < b + n
   · rw [if_pos c4, if_pos (by omega)]
   have e2 : ¬ (b ≤ q ∧ q < b + (n + 1)) := by omega
   rw [if_neg c4, if_neg e2]
def Gr (xs : List α) (a m b : Nat) : List α := Cw xs a b (Bq xs m b ++ Bq xs a m)
theorem Uz {xs : List α} {a m b : Nat} (h1 : a ≤ m) (h2 : m ≤ b) (hb : b ≤ xs.length) : (Bq xs m b ++ Bq xs a m).length = b - a := by
 rw [List.length_append, Aq hb, Aq (by omega)]; omega
theorem Er {xs : List α} {a m b : Nat} (h1 : a ≤ m) (h2 : m ≤ b) (hb : b ≤ xs.length) : (Gr xs a m b).length = xs.length := A9 oQ hb (Uz h1 h2 hb)
theorem Is {xs : List α} {a m b : Nat} (h1 : a ≤ m) (h2 : m ≤ b) (hb : b ≤ xs.length) (q : Nat) : (Gr xs a m b)[q]? = if q < a then xs[q]? else if q < a + (b - m) then xs[q - a + m]? else if q < b then xs[q - (b - m)]? else xs[q]? := by
 unfold Gr
 rw [E0 oQ hb (Uz h1 h2 hb)]
 by_cases c1 : q < a
 · rw [if_pos c1, if_pos c1]
 rw [if_neg c1, if_neg c1]
 by_cases c2 : q < a + (b - m)
 · rw [if_pos oQ, if_pos c2, List.getElem?_append_left (by rw [Aq hb]; omega), F0 (by omega)]
   congr 1; omega
 rw [if_neg c2]
 by_cases c3 : q < b
 · rw [if_pos c3, if_pos c3, List.getElem?_append_right (by rw [Aq hb]; omega), Aq hb, F0 (by omega)]
   congr 1; omega
 rw [if_neg c3, if_neg c3]
theorem Qg {xs : List α} {m i j : Nat} (hi : i ≤ m) (hij : j < i) (hj : 0 < j) (hb : m + j ≤ xs.length) : Gr (Kr xs (m - i) m j) (m - (i - j)) m (m + j) = Gr xs (m - i) m (m + j) := by
 apply List.ext_getElem?
 intro q
 have hl := C5 xs (m - i) m j
 rw [Is oQ oQ (by rw [hl]; exact hb), Is oQ oQ hb]
 have g : ∀ q, (Kr xs (m - i) m j)[q]? = _ := fun q => Ly oQ hb q
 rw [g, g, g]
 by_cases c1 : q < m - i
 · rw [if_pos oQ, if_neg oQ, if_neg oQ, if_pos c1]
 by_cases c2 : q < m - i + j
 · rw [if_pos oQ, if_pos oQ, if_neg c1, if_pos (by omega)]
 by_cases c3 : q < m - (i - j) + j
 · rw [if_neg oQ, if_pos oQ, if_neg oQ, if_pos oQ, if_neg c1, if_neg oQ, if_pos (by omega)]
   congr 1; omega
 by_cases c4 : q < m + j
 · rw [if_neg oQ, if_neg oQ, if_pos c4, if_neg oQ, if_neg oQ, if_neg c1, if_neg oQ, if_pos c4]
 rw [if_neg oQ, if_neg oQ, if_neg c4, if_neg oQ, if_neg oQ, if_neg c1, if_neg oQ, if_neg c4]
theorem Lz {xs : List α} {m i j : Nat} (hi : i ≤ m) (hij : i < j) (h0 : 0 < i) (hb : m + j ≤ xs.length) : Gr (Kr xs (m - i) (m + j - i) i) (m - i) m (m + (j - i)) = Gr xs (m - i) m (m + j) := by
 apply List.ext_getElem?
 intro q
 have hl := C5 xs (m - i) (m + j - i) i
 rw [Is oQ oQ (by rw [hl]; omega), Is oQ oQ hb]
 have g : ∀ q, (Kr xs (m - i) (m + j - i) i)[q]? = _ := fun q => Ly oQ oQ q
 rw [g, g, g]
 by_cases c1 : q < m - i
 · rw [if_pos c1, if_neg oQ, if_neg oQ, if_pos c1]
 by_cases c2 : q < m - i + (j - i)
 · rw [if_neg c1, if_pos oQ, if_neg oQ, if_neg oQ, if_neg c1, if_pos (by omega)]
 by_cases c3 : q < m + (j - i)
 · rw [if_neg c1, if_neg oQ, if_pos c3, if_pos oQ, if_neg c1, if_pos (by omega)]
   congr 1; omega
 by_cases c4 : q < m + j
 · rw [if_neg c1, if_neg oQ, if_neg c3, if_neg oQ, if_pos oQ, if_neg c1, if_neg oQ, if_pos c4]
   congr 1; omega
 rw [if_neg c1, if_neg oQ, if_neg c3, if_neg oQ, if_neg oQ, if_neg c1, if_neg oQ, if_neg c4]
theorem Wp {xs : List α} {m i : Nat} (hi : i ≤ m) (hb : m + i ≤ xs.length) : Kr xs (m - i) m i = Gr xs (m - i) m (m + i) := by
 apply List.ext_getElem?
 intro q
 rw [Is oQ oQ hb, Ly oQ hb]
 by_cases c1 : q < m - i
 · rw [if_neg oQ, if_neg oQ, if_pos c1]
 by_cases c2 : q < m
 · rw [if_pos oQ, if_neg c1, if_pos (by omega)]
 by_cases c3 : q < m + i
 · rw [if_neg oQ, if_pos oQ, if_neg c1, if_neg oQ, if_pos c3]
   congr 1; omega
 rw [if_neg oQ, if_neg oQ, if_neg c1, if_neg oQ, if_neg c3]
theorem iH {xs : List α} {m b : Nat} (h : m ≤ b) (hb : b ≤ xs.length) : Gr xs m m b = xs := by
 rw [Gr, Fm (a := m) (b := m) (Nat.le_refl _), List.append_nil, Df h hb]
theorem dY {xs : List α} {a m : Nat} (h : a ≤ m) (hb : m ≤ xs.length) : Gr xs a m m = xs := by
 rw [Gr, Fm (a := m) (b := m) (Nat.le_refl _), List.nil_append, Df h hb]
def Ay (A : List α) (x : α) (p : Nat) : List α := A.take p ++ x :: A.drop p
theorem Cm (A : List α) (x : α) (p : Nat) : (Ay A x p).length = A.length + 1 := by simp [Ay]; omega
theorem Mt {A : List α} {x : α} {p : Nat} (h : p ≤ A.length) : (Ay A x p)[p]? = some x := by
 rw [Ay, List.getElem?_append_right (by simp; omega)]
 have : p - (A.take p).length = 0 := by simp; omega
 rw [this]; rfl
theorem Ho {A : List α} {x : α} {p q : Nat} (h : p ≤ A.length) (hq : q < p) : (Ay A x p)[q]? = A[q]? := by
 rw [Ay, List.getElem?_append_left (by simp; omega), List.getElem?_take, if_pos hq]
theorem Hp {A : List α} {x : α} {p q : Nat} (h : p ≤ A.length) (hq : p < q) : (Ay A x p)[q]? = A[q - 1]? := by
 rw [Ay, List.getElem?_append_right (by simp; omega)]
 have e : q - (A.take p).length = (q - p - 1) + 1 := by simp; omega
 rw [e, List.getElem?_cons_succ, List.getElem?_drop]
 congr 1; omega
theorem Rk {A : List α} {x : α} {p : Nat} (h : p < A.length) : swp (Ay A x p) p (p + 1) = Ay A x (p + 1) := by
 have hl := Cm A x p
 apply List.ext_getElem?
 intro q
 rw [swp_get oQ (by omega)]
 by_cases c1 : q = p + 1
 · rw [if_pos c1, c1, Mt oQ, Mt (by omega)]
 rw [if_neg c1]
 by_cases c2 : q = p
 · rw [if_pos c2, c2, Hp oQ oQ, Ho oQ (by omega)]; simp
 rw [if_neg c2]
 by_cases c3 : q < p
 · rw [Ho oQ c3, Ho oQ (by omega)]
 rw [Hp oQ oQ, Hp oQ (by omega)]
theorem iI {xs : List α} {i j : Nat} (hi : i < xs.length) (hj : j < xs.length) (hne : i ≠ j) : swp xs i j = swp xs j i := by
 apply List.ext_getElem?
 intro q
 rw [swp_get hi hj, swp_get hj hi]
 by_cases c1 : q = j
 · rw [if_pos c1, if_neg oQ, if_pos c1]
 rw [if_neg c1]
 by_cases c2 : q = i
 · rw [if_pos c2, if_pos c2]
 rw [if_neg c2, if_neg c2, if_neg c1]
theorem bN {xs ys : List α} {a b i j : Nat} (h1 : a ≤ b) (hb : b ≤ xs.length) (hy : ys.length = b - a) (hi : i < ys.length) (hj : j < ys.length) : swp (Cw xs a b ys) (a + i) (a + j) = Cw xs a b (swp ys i j) := by
 have hl := A9 h1 hb hy
 have hi' : a + i < (Cw xs a b ys).length := by omega
 have hj' : a + j < (Cw xs a b ys).length := by omega
 have e1 : (Cw xs a b ys)[a + i]? = ys[i]? := by rw [E0 h1 hb hy, if_neg oQ, if_pos (by omega)]; congr 1; omega
 have e2 : (Cw xs a b ys)[a + j]? = ys[j]? := by rw [E0 h1 hb hy, if_neg oQ, if_pos (by omega)]; congr 1; omega
 apply List.ext_getElem?
 intro q
 rw [swp_get hi' hj' q, e1, e2, E0 h1 hb hy q, E0 h1 hb (by rw [Mr]; exact hy) q, swp_get hi hj]
 by_cases c0 : q < a
 · rw [if_neg oQ, if_neg oQ, if_pos c0, if_pos c0]
 rw [if_neg c0, if_neg c0]
 by_cases c1 : q = a + j
 · have d1 : q - a = j := by omega
   rw [if_pos c1, if_pos (show q < b by omega), if_pos d1]
 have d1 : ¬ q - a = j := by omega
 rw [if_neg c1, if_neg d1]
 by_cases c2 : q = a + i
 · have d2 : q - a = i := by omega
   rw [if_pos c2, if_pos (show q < b by omega), if_pos d2]
 have d2 : ¬ q - a = i := by omega
 rw [if_neg c2, if_neg d2]
theorem L0 (A : List α) (x : α) : Ay A x A.length = A ++ [x] := by simp [Ay]
theorem Pp (A : List α) (x : α) : Ay A x 0 = x :: A := by simp [Ay]
theorem mJ {xs : List α} {i j : Nat} (hi : i < xs.length) (hj : j < xs.length) : swp (swp xs i j) i j = xs := by
 have hl := Mr xs i j
 apply List.ext_getElem?
 intro q
 rw [swp_get (xs := swp xs i j) oQ oQ q, swp_get hi hj i, swp_get hi hj j, swp_get hi hj q]
 by_cases c1 : q = j
 · rw [if_pos c1, c1]
   by_cases c2 : i = j
   · rw [if_pos c2, c2]
   rw [if_neg c2, if_pos rfl]
 rw [if_neg c1, if_neg c1]
 by_cases c2 : q = i
 · rw [if_pos c2, if_pos rfl, c2]
 rw [if_neg c2, if_neg c2]
end
theorem Nt {α : Type} {xs zs : List α} {a i : Nat} {x : α} (h1 : a ≤ i) (hx : xs[i]? = some x) (hz : zs.length = i - a) : Cw xs a (i + 1) (zs ++ [x]) = Cw xs a i zs := by
 obtain ⟨hi, e⟩ := List.getElem?_eq_some_iff.1 hx
 have hl := A9 (ys := zs) h1 (by omega : i ≤ xs.length) hz
 rw [← bM (m := i) h1 oQ oQ hz (by simp)]
 have e2 : [x] = Bq (Cw xs a i zs) i (i + 1) := by
   rw [Eh h1 oQ hz (.inr (Nat.le_refl _))]
   apply List.ext_getElem?
   intro q
   by_cases h : i + q < i + 1
   · have : q = 0 := by omega
     subst this
     rw [F0 h, Nat.add_zero, hx]; rfl
   rw [List.getElem?_eq_none (by simp; omega), List.getElem?_eq_none (by rw [Aq (by omega)]; omega)]
 rw [e2, Df oQ (by omega)]
theorem Ib {α : Type} {xs : List α} {a i : Nat} {x : α} (h1 : a ≤ i) (hx : xs[i]? = some x) : Bq xs a (i + 1) = Bq xs a i ++ [x] := by
 obtain ⟨hi, e⟩ := List.getElem?_eq_some_iff.1 hx
 rw [Fl h1 oQ (by omega)]
 congr 1
 apply List.ext_getElem?
 intro q
 by_cases h : i + q < i + 1
 · have : q = 0 := by omega
   subst this
   rw [F0 h, Nat.add_zero, hx]; rfl
 rw [List.getElem?_eq_none (by rw [Aq (by omega)]; omega), List.getElem?_eq_none (by simp; omega)]
theorem Pq {α : Type} {xs zs : List α} {a b p : Nat} {x : α} (h1 : a ≤ b) (hb : b ≤ xs.length) (hz : zs.length + 1 = b - a) (hp : p ≤ zs.length) : (Cw xs a b (Ay zs x p))[a + p]? = some x := by
 rw [E0 h1 hb (by rw [Cm]; exact hz), if_neg oQ, if_pos (by omega)]
 have : a + p - a = p := by omega
 rw [this, Mt hp]
theorem Ic {α : Type} {xs zs : List α} {a b p q : Nat} {x : α} (h1 : a ≤ b) (hb : b ≤ xs.length) (hz : zs.length + 1 = b - a) (hp : p ≤ zs.length) (hq : q < p) : (Cw xs a b (Ay zs x p))[a + q]? = zs[q]? := by
 rw [E0 h1 hb (by rw [Cm]; exact hz), if_neg oQ, if_pos (by omega)]
 have : a + q - a = q := by omega
 rw [this, Ho hp hq]
theorem Mv {α : Type} {xs zs : List α} {a b p q : Nat} {x : α} (h1 : a ≤ b) (hb : b ≤ xs.length) (hz : zs.length + 1 = b - a) (hq : p < q) (hqz : q ≤ zs.length) : (Cw xs a b (Ay zs x p))[a + q]? = zs[q - 1]? := by
 rw [E0 h1 hb (by rw [Cm]; exact hz), if_neg oQ, if_pos (by omega)]
 have : a + q - a = q := by omega
 rw [this, Hp oQ hq]
theorem Nu {α : Type} {xs zs : List α} {a b p : Nat} {x y : α} (h1 : a ≤ b) (hb : b ≤ xs.length) (hz : zs.length + 1 = b - a) (hp : p < zs.length) (hy : zs[p]? = some y) : ((Cw xs a b (Ay zs x (p + 1))).set (a + (p + 1)) y).set (a + p) x = Cw xs a b (Ay zs x p) := by
 have hl := Cm zs x (p + 1)
 rw [← Rj (Pq (p := p + 1) h1 hb hz oQ) ((Ic (p := p + 1) h1 hb hz oQ (show p < p + 1 by omega)).trans hy), bN h1 hb (by rw [hl]; exact hz) oQ oQ, iI oQ oQ oQ, ← Rk hp, mJ (by rw [Cm]; omega) (by rw [Cm]; omega)]
theorem iJ {α : Type} {xs zs : List α} {a b p : Nat} {x y : α} (h1 : a ≤ b) (hb : b ≤ xs.length) (hz : zs.length + 1 = b - a) (hp : p < zs.length) (hy : zs[p]? = some y) : ((Cw xs a b (Ay zs x p)).set (a + p) y).set (a + (p + 1)) x = Cw xs a b (Ay zs x (p + 1)) := by
 have hl := Cm zs x p
 rw [← Rj (Pq h1 hb hz oQ) ((Mv (q := p + 1) h1 hb hz (show p < p + 1 by omega) oQ).trans hy), bN h1 hb (by rw [hl]; exact hz) oQ oQ, Rk hp]
theorem StS.snoc {α : Type} {key : α → K2} {L zs : List α} {x : α} {p : Nat} (h : StS key L zs) (hp : p ≤ zs.length) (hgt : ∀ y ∈ zs.drop p, Gc (key x) (key y) = true) (hle : p = 0 ∨ ∃ y, zs[p - 1]? = some y ∧ Gc (key x) (key y) = false) : StS key (L ++ [x]) (Ay zs x p) := by
 have h1 : StS key (zs ++ [x]) (Ay zs x p) := StS.put h.ord hgt (fun y hy => by
   rcases hle with rfl | ⟨z, hz, hzl⟩
   · simp at hy
   obtain ⟨q, hq, rfl⟩ := List.mem_iff_getElem.1 hy
   rw [List.getElem_take]
   have hq' : q < p := by simp at hq; omega
   obtain ⟨hz1, rfl⟩ := List.getElem?_eq_some_iff.1 hz
   rcases Nat.lt_or_ge q (p - 1) with h3 | h3
   · exact Ew (List.pairwise_iff_getElem.1 h.ord q (p - 1) oQ hz1 h3) hzl
   have : q = p - 1 := by omega
   subst this
   exact hzl)
 exact ⟨h1.ord, (h.same.dX (sameF.refl [x])).trans h1.same⟩
theorem bO {α : Type} {key : α → K2} {l : List α} (h : l.length ≤ 1) : Hx key l := by
 match l, h with
 | [], _ => exact List.Pairwise.nil
 | [x], _ => exact List.pairwise_singleton _ _
 | _ :: _ :: _, h => simp at h
theorem To {α : Type} {zs : List α} {p : Nat} {y : α} {P : α → Prop} (hp : 1 ≤ p) (hy : zs[p - 1]? = some y) (h : ∀ z ∈ zs.drop p, P z) (hP : P y) : ∀ z ∈ zs.drop (p - 1), P z := by
 obtain ⟨h1, rfl⟩ := List.getElem?_eq_some_iff.1 hy
 rw [List.drop_eq_getElem_cons h1, show p - 1 + 1 = p by omega]
 intro z hz
 rcases List.mem_cons.1 hz with rfl | hz
 · exact hP
 exact h z hz
end Go.Wx
end
section
namespace Go.Wx
section
variable {α : Type} {key : α → K2}
theorem It {xs : List α} {a b c d : Nat} (h : Hx key (Bq xs a b)) (h1 : a ≤ c) (h2 : d ≤ b) : Hx key (Bq xs c d) := by
 have e : (xs.take d).drop c = ((xs.take d).drop a).drop (c - a) := by rw [List.drop_drop]; congr 1; omega
 have p : xs.take d = (xs.take b).take d := by rw [List.take_take, Nat.min_eq_left h2]
 have q : ((xs.take d).drop a).Sublist ((xs.take b).drop a) := by
   rw [p, List.drop_take]
   exact List.take_sublist _ _
 have r : (Bq xs c d).Sublist (Bq xs a b) := by
   unfold Bq
   rw [e]
   exact (List.drop_sublist _ _).trans q
 exact List.Pairwise.sublist r h
theorem Du {xs : List α} {a b p q : Nat} {u v : α} (h : Hx key (Bq xs a b)) (h1 : a ≤ p) (h2 : p ≤ q) (h3 : q < b) (hu : xs[p]? = some u) (hv : xs[q]? = some v) : Gc (key v) (key u) = false := by
 rcases Nat.lt_or_ge p q with hl | hl
 · have e1 : (Bq xs a b)[p - a]? = some u := by rw [F0 (by omega)]; rw [show a + (p - a) = p by omega]; exact hu
   have e2 : (Bq xs a b)[q - a]? = some v := by rw [F0 (by omega)]; rw [show a + (q - a) = q by omega]; exact hv
   obtain ⟨i1, rfl⟩ := List.getElem?_eq_some_iff.1 e1
   obtain ⟨i2, rfl⟩ := List.getElem?_eq_some_iff.1 e2
   exact List.pairwise_iff_getElem.1 h _ _ i1 i2 oQ
 have : p = q := by omega
 subst this
 rw [hu] at hv; cases hv
 exact J7 _
theorem Iu {xs : List α} {a b : Nat} {x : α} (hb : b ≤ xs.length) (h : x ∈ Bq xs a b) : ∃ q, a ≤ q ∧ q < b ∧ xs[q]? = some x := by
 obtain ⟨i, e⟩ := List.mem_iff_getElem?.1 h
 have hi := (List.getElem?_eq_some_iff.1 e).1
 rw [Aq hb] at hi
 rw [F0 (by omega)] at e
 exact ⟨a + i, by omega, by omega, e⟩
theorem U0 {xs : List α} {a mm b s e : Nat} (hA : Hx key (Bq xs a mm)) (hB : Hx key (Bq xs mm b)) (h2 : s ≤ mm) (h3 : mm ≤ e) (hb : b ≤ xs.length)
   (h : s ≤ a ∨ b ≤ e ∨ ∃ u v, xs[e]? = some u ∧ xs[s - 1]? = some v ∧ Gc (key u) (key v) = false) : ∀ x ∈ Bq xs a s, ∀ y ∈ Bq xs e b, Gc (key y) (key x) = false := by
 intro x hx y hy
 rcases h with h | h | ⟨u, v, hu, hv, hl⟩
 · rw [Fm h] at hx; simp at hx
 · rw [Fm h] at hy; simp at hy
 obtain ⟨p, p1, p2, hp⟩ := Iu (by have := (List.getElem?_eq_some_iff.1 hv).1; omega) hx
 obtain ⟨q, q1, q2, hq⟩ := Iu hb hy
 have a1 := Du hA p1 (show p ≤ s - 1 by omega) oQ hp hv
 have a2 := Du hB (show mm ≤ e by omega) q1 q2 hu hq
 exact Ew (Ew a1 hl) a2
theorem U1 {xs : List α} {a mm b s e : Nat} (hA : Hx key (Bq xs a mm)) (hB : Hx key (Bq xs mm b)) (h1 : a ≤ s) (h4 : e ≤ b) (hb : b ≤ xs.length) (hmb : mm ≤ b)
   (h : mm ≤ s ∨ e ≤ mm ∨ ∃ u v, xs[e - 1]? = some u ∧ xs[s]? = some v ∧ Gc (key u) (key v) = true) : ∀ v ∈ Bq xs mm e, ∀ u ∈ Bq xs s mm, Gc (key v) (key u) = true := by
 intro x hx y hy
 rcases h with h | h | ⟨u, v, hu, hv, hl⟩
 · rw [Fm h] at hy; simp at hy
 · rw [Fm h] at hx; simp at hx
 obtain ⟨p, p1, p2, hp⟩ := Iu oQ hx
 obtain ⟨q, q1, q2, hq⟩ := Iu oQ hy
 have a1 := Du hB p1 (show p ≤ e - 1 by omega) oQ hp hu
 have a2 := Du hA h1 q1 q2 hv hq
 exact Lx (Ns a1 hl) a2
theorem Wq {xs : List α} {s mm e : Nat} (h1 : s ≤ mm) (h2 : mm ≤ e) (hb : e ≤ xs.length) : Bq (Gr xs s mm e) s (s + (e - mm)) = Bq xs mm e := by
 have hl := Er h1 h2 hb
 apply List.ext_getElem?
 intro i
 by_cases h : i < e - mm
 · rw [F0 oQ, F0 oQ, Is h1 h2 hb, if_neg oQ, if_pos (by omega)]
   congr 1; omega
 rw [List.getElem?_eq_none (by rw [Aq (by omega)]; omega), List.getElem?_eq_none (by rw [Aq hb]; omega)]
theorem Wr {xs : List α} {s mm e : Nat} (h1 : s ≤ mm) (h2 : mm ≤ e) (hb : e ≤ xs.length) : Bq (Gr xs s mm e) (s + (e - mm)) e = Bq xs s mm := by
 have hl := Er h1 h2 hb
 apply List.ext_getElem?
 intro i
 by_cases h : i < mm - s
 · rw [F0 oQ, F0 oQ, Is h1 h2 hb, if_neg oQ, if_neg oQ, if_pos (by omega)]
   congr 1; omega
 rw [List.getElem?_eq_none (by rw [Aq (by omega)]; omega), List.getElem?_eq_none (by rw [Aq (by omega)]; omega)]
theorem Qh {xs : List α} {s mm e c d : Nat} (h1 : s ≤ mm) (h2 : mm ≤ e) (hb : e ≤ xs.length) (h : d ≤ s ∨ e ≤ c) : Bq (Gr xs s mm e) c d = Bq xs c d := Eh oQ hb (Uz h1 h2 hb) h
theorem mK {xs zs : List α} {a b s mm e : Nat} (h0 : a ≤ s) (h1 : s ≤ mm) (h2 : mm ≤ e) (h3 : e ≤ b) (hb : b ≤ xs.length) (hz : zs.length = b - a) : Cw (Gr xs s mm e) a b zs = Cw xs a b zs := by
 have hl := Er h1 h2 (by omega : e ≤ xs.length)
 apply List.ext_getElem?
 intro q
 rw [E0 oQ oQ hz, E0 oQ hb hz, Is h1 h2 (by omega)]
 by_cases c1 : q < a
 · rw [if_pos c1, if_pos c1, if_pos (by omega)]
 rw [if_neg c1, if_neg c1]
 by_cases c2 : q < b
 · rw [if_pos c2, if_pos c2]
 rw [if_neg c2, if_neg c2, if_neg oQ, if_neg oQ, if_neg (by omega)]
theorem Ws {xs : List α} {a s mm e mid : Nat} (h0 : a ≤ s) (h1 : s ≤ mm) (h2 : mm ≤ e) (hb : e ≤ xs.length) (hm : mid = s + (e - mm)) : Bq (Gr xs s mm e) a mid = Bq xs a s ++ Bq xs mm e := by
 subst hm
 rw [Fl (m := s) h0 oQ (by rw [Er h1 h2 hb]; omega), Qh h1 h2 hb (.inl (Nat.le_refl _)), Wq h1 h2 hb]
theorem Tp {xs : List α} {s mm e b mid : Nat} (h1 : s ≤ mm) (h2 : mm ≤ e) (h3 : e ≤ b) (hb : b ≤ xs.length) (hm : mid = s + (e - mm)) : Bq (Gr xs s mm e) mid b = Bq xs s mm ++ Bq xs e b := by
 subst hm
 rw [Fl (m := e) oQ h3 (by rw [Er h1 h2 (by omega)]; omega), Qh h1 h2 oQ (.inr (Nat.le_refl _)), Wr h1 h2 (by omega)]
theorem Nv {xs X Y : List α} {a mm b s e mid : Nat} (h0 : a ≤ s) (h1 : s ≤ mm) (h2 : mm ≤ e) (h3 : e ≤ b) (hb : b ≤ xs.length) (hm : mid = s + (e - mm)) (hA : Hx key (Bq xs a mm)) (hB : Hx key (Bq xs mm b))
   (k1 : ∀ x ∈ Bq xs a s, ∀ y ∈ Bq xs e b, Gc (key y) (key x) = false) (k2 : ∀ v ∈ Bq xs mm e, ∀ u ∈ Bq xs s mm, Gc (key v) (key u) = true)
   (hX : StS key (Bq (Gr xs s mm e) a mid) X) (hY : StS key (Bq (Cw (Gr xs s mm e) a mid X) mid b) Y) : StS key (Bq xs a b) (X ++ Y) ∧ Cw (Cw (Gr xs s mm e) a mid X) mid b Y = Cw xs a b (X ++ Y) := by
 have hl := Er h1 h2 (by omega : e ≤ xs.length)
 have hXl : X.length = mid - a := by rw [hX.same.length, Aq (by omega)]
 rw [Eh oQ oQ hXl (.inr (Nat.le_refl _))] at hY
 have hYl : Y.length = b - mid := by rw [hY.same.length, Aq (by omega)]
 rw [Ws h0 h1 h2 oQ hm] at hX
 rw [Tp h1 h2 h3 hb hm] at hY
 have eA : Bq xs a s ++ Bq xs s mm = Bq xs a mm := (Fl h0 h1 oQ).symm
 have eB : Bq xs mm e ++ Bq xs e b = Bq xs mm b := (Fl h2 h3 hb).symm
 refine ⟨?_, ?_⟩
 · have := Ze (by rw [eA]; exact hA) (by rw [eB]; exact hB) k1 k2 hX hY
   rw [eA, eB, ← Fl oQ oQ hb] at this
   exact this
 rw [bM oQ oQ oQ hXl hYl, mK h0 h1 h2 h3 hb (by rw [List.length_append]; omega)]
theorem bP {xs : List α} {a b i : Nat} {x : α} (hb : b ≤ xs.length) (hx : xs[a]? = some x) (hab : a + 1 ≤ i) (hib : i ≤ b) (hB : Hx key (Bq xs (a + 1) b)) (hL : ∀ q y, a + 1 ≤ q → q < i → xs[q]? = some y → Gc (key y) (key x) = true) (hR : ∀ q y, i ≤ q → q < b → xs[q]? = some y → Gc (key y) (key x) = false) :
   StS key (Bq xs a b) (Ay (Bq xs (a + 1) b) x (i - (a + 1))) := by
 have e : Bq xs a b = x :: Bq xs (a + 1) b := by
   rw [Fl (m := a + 1) oQ oQ hb, Ib (Nat.le_refl a) hx, Fm (Nat.le_refl a)]; rfl
 have t : (Bq xs (a + 1) b).take (i - (a + 1)) = Bq xs (a + 1) i := by
   unfold Bq
   rw [List.take_drop, List.take_take, show a + 1 + (i - (a + 1)) = i by omega, Nat.min_eq_left hib]
 have d : (Bq xs (a + 1) b).drop (i - (a + 1)) = Bq xs i b := by
   unfold Bq
   rw [List.drop_drop, show a + 1 + (i - (a + 1)) = i by omega]
 rw [e]
 refine iG hB (fun y hy => ?_) (fun y hy => ?_)
 · rw [t] at hy
   obtain ⟨q, q1, q2, hq⟩ := Iu oQ hy
   exact hL q y q1 q2 hq
 rw [d] at hy
 obtain ⟨q, q1, q2, hq⟩ := Iu hb hy
 exact hR q y q1 q2 hq
theorem Wt {xs : List α} {a m i : Nat} {x : α} (hx : xs[m]? = some x) (h1 : a ≤ i) (h2 : i ≤ m) (hA : Hx key (Bq xs a m)) (hL : ∀ q y, a ≤ q → q < i → xs[q]? = some y → Gc (key x) (key y) = false) (hR : ∀ q y, i ≤ q → q < m → xs[q]? = some y → Gc (key x) (key y) = true) :
   StS key (Bq xs a (m + 1)) (Ay (Bq xs a m) x (i - a)) := by
 have hm := (List.getElem?_eq_some_iff.1 hx).1
 have t : (Bq xs a m).take (i - a) = Bq xs a i := by
   unfold Bq
   rw [List.take_drop, List.take_take, show a + (i - a) = i by omega, Nat.min_eq_left h2]
 have d : (Bq xs a m).drop (i - a) = Bq xs i m := by
   unfold Bq
   rw [List.drop_drop, show a + (i - a) = i by omega]
 rw [Ib oQ hx]
 refine StS.put hA (fun y hy => ?_) (fun y hy => ?_)
 · rw [d] at hy
   obtain ⟨q, q1, q2, hq⟩ := Iu oQ hy
   exact hR q y q1 q2 hq
 rw [t] at hy
 obtain ⟨q, q1, q2, hq⟩ := Iu oQ hy
 exact hL q y q1 q2 hq
theorem Nw {xs : List α} {s mm e : Nat} (h : ¬ (s < mm ∧ mm < e)) (h1 : s ≤ mm) (h2 : mm ≤ e) (hb : e ≤ xs.length) : Gr xs s mm e = xs := by
 rcases Nat.lt_or_ge s mm with h3 | h3
 · have : e = mm := by omega
   subst this
   exact dY h1 hb
 have : s = mm := by omega
 subst this
 exact iH h2 hb
theorem L3 {xs : List α} {a mm b s e mid : Nat} (hA : Hx key (Bq xs a mm)) (hB : Hx key (Bq xs mm b)) (h0 : a ≤ s) (h1 : s ≤ mm) (h2 : mm ≤ e) (h3 : e ≤ b) (hb : b ≤ xs.length) (hm : mid = s + (e - mm)) (h : ¬ (a < s ∧ s < mid)) : Hx key (Bq (Gr xs s mm e) a mid) := by
 rw [Ws h0 h1 h2 oQ hm]
 rcases Nat.lt_or_ge a s with h4 | h4
 · rw [Fm (show e ≤ mm by omega), List.append_nil]
   exact It hA (Nat.le_refl _) h1
 rw [Fm h4, List.nil_append]
 exact It hB (Nat.le_refl _) h3
theorem L4 {xs X : List α} {a mm b s e mid : Nat} (hA : Hx key (Bq xs a mm)) (hB : Hx key (Bq xs mm b)) (h0 : a ≤ s) (h1 : s ≤ mm) (h2 : mm ≤ e) (h3 : e ≤ b) (hb : b ≤ xs.length) (hm : mid = s + (e - mm)) (hX : X.length = mid - a) (h : ¬ (mid < e ∧ e < b)) : Hx key (Bq (Cw (Gr xs s mm e) a mid X) mid b) := by
 have hl := Er h1 h2 (by omega : e ≤ xs.length)
 rw [Eh oQ oQ hX (.inr (Nat.le_refl _)), Tp h1 h2 h3 hb hm]
 rcases Nat.lt_or_ge mid e with h4 | h4
 · rw [Fm (show b ≤ e by omega), List.append_nil]
   exact It hA h0 (Nat.le_refl _)
 rw [Fm (show mm ≤ s by omega), List.nil_append]
 exact It hB h2 (Nat.le_refl _)
theorem Qi {xs : List α} {a mm b s e mid : Nat} (hA : Hx key (Bq xs a mm)) (hB : Hx key (Bq xs mm b)) (h1 : s ≤ mm) (h2 : mm ≤ e) (h3 : e ≤ b) (hb : b ≤ xs.length) (hm : mid = s + (e - mm)) : Hx key (Bq (Gr xs s mm e) a s) ∧ Hx key (Bq (Gr xs s mm e) s mid) := by
 subst hm
 rw [Qh h1 h2 oQ (.inl (Nat.le_refl _)), Wq h1 h2 (by omega)]
 exact ⟨It hA (Nat.le_refl _) h1, It hB (Nat.le_refl _) h3⟩
theorem Qj {xs X : List α} {a mm b s e mid : Nat} (hA : Hx key (Bq xs a mm)) (hB : Hx key (Bq xs mm b)) (h0 : a ≤ s) (h1 : s ≤ mm) (h2 : mm ≤ e) (h3 : e ≤ b) (hb : b ≤ xs.length) (hm : mid = s + (e - mm)) (hX : X.length = mid - a) : Hx key (Bq (Cw (Gr xs s mm e) a mid X) mid e) ∧ Hx key (Bq (Cw (Gr xs s mm e) a mid X) e b) := by
 have hl := Er h1 h2 (by omega : e ≤ xs.length)
 rw [Eh oQ oQ hX (.inr (Nat.le_refl _)), Eh oQ oQ hX (.inr oQ), Qh h1 h2 oQ (.inr (Nat.le_refl _))]
 subst hm
 rw [Wr h1 h2 (by omega)]
 exact ⟨It hA h0 (Nat.le_refl _), It hB h2 (Nat.le_refl _)⟩
end
end Go.Wx
end
section
namespace Go.Wx
section
variable {α : Type} {key : α → K2}
def Bks (key : α → K2) (ys : List α) (B : Nat) : Prop := ∀ i, Hx key (Bq ys (B * i) (min (B * i + B) ys.length))
def Ins (key : α → K2) (ys : List α) (B a : Nat) : Prop := (∃ q, a = B * q) ∧ ∀ i, B * (i + 1) ≤ a → Hx key (Bq ys (B * i) (B * i + B))
def Mrg (key : α → K2) (ys : List α) (B a : Nat) : Prop := Ins key ys (2 * B) a ∧ ∀ i, a ≤ B * i → Hx key (Bq ys (B * i) (min (B * i + B) ys.length))
theorem Ins.zero (ys : List α) (B : Nat) (hB : 0 < B) : Ins key ys B 0 := ⟨⟨0, rfl⟩, fun i h => by
 rw [Nat.mul_add, Nat.mul_one] at h
 omega⟩
theorem Ins.step {ys zs : List α} {B a : Nat} (hB : 0 < B) (h : Ins key ys B a) (hb : a + B ≤ ys.length) (hz : StS key (Bq ys a (a + B)) zs) : Ins key (Cw ys a (a + B) zs) B (a + B) := by
 obtain ⟨⟨q, rfl⟩, hs⟩ := h
 have hzl : zs.length = B * q + B - B * q := by rw [hz.same.length, Aq hb]
 refine ⟨⟨q + 1, by rw [Nat.mul_add, Nat.mul_one]⟩, fun i hi => ?_⟩
 have hle : i ≤ q := by
   have : B * (i + 1) ≤ B * (q + 1) := by rw [Nat.mul_add B q 1, Nat.mul_one]; exact hi
   have := Nat.le_of_mul_le_mul_left this hB
   omega
 rcases Nat.lt_or_ge i q with h | h
 · have h1 : B * (i + 1) ≤ B * q := Nat.mul_le_mul_left B h
   rw [Eh oQ hb hzl (.inl (by rw [Nat.mul_add, Nat.mul_one] at h1; exact h1))]
   exact hs i h1
 have : i = q := by omega
 subst this
 rw [bL oQ hb hzl]
 exact hz.ord
theorem Ins.last {ys zs : List α} {B a : Nat} (h : Ins key ys B a) (ha : a ≤ ys.length) (hb : ys.length < a + B) (hz : StS key (Bq ys a ys.length) zs) : Bks key (Cw ys a ys.length zs) B := by
 obtain ⟨⟨q, rfl⟩, hs⟩ := h
 have hzl : zs.length = ys.length - B * q := by rw [hz.same.length, Aq (Nat.le_refl _)]
 have hl := A9 ha (Nat.le_refl _) hzl
 intro i
 rw [hl]
 rcases Nat.lt_trichotomy i q with h | h | h
 · have h1 : B * (i + 1) ≤ B * q := Nat.mul_le_mul_left B h
   have h2 : B * i + B ≤ B * q := by rw [Nat.mul_add, Nat.mul_one] at h1; exact h1
   rw [Nat.min_eq_left oQ, Eh ha (Nat.le_refl _) hzl (.inl h2)]
   exact hs i h1
 · subst h
   rw [Nat.min_eq_right oQ, bL ha (Nat.le_refl _) hzl]
   exact hz.ord
 have h1 : B * (q + 1) ≤ B * i := Nat.mul_le_mul_left B h
 rw [Nat.mul_add, Nat.mul_one] at h1
 rw [Fm (by omega)]
 exact List.Pairwise.nil
theorem Mrg.start {ys : List α} {B : Nat} (hB : 0 < B) (h : Bks key ys B) : Mrg key ys B 0 := ⟨Ins.zero ys (2 * B) oQ, fun i _ => h i⟩
theorem Mrg.pre {ys : List α} {B a : Nat} (h : Mrg key ys B a) (hb : 2 * B + a ≤ ys.length) : Hx key (Bq ys a (a + B)) ∧ Hx key (Bq ys (a + B) (2 * B + a)) := by
 obtain ⟨⟨⟨q, hq⟩, _⟩, hs⟩ := h
 have e1 : a = B * (2 * q) := by rw [hq, Nat.mul_comm 2 B, Nat.mul_assoc]
 have e2 : a + B = B * (2 * q + 1) := by rw [Nat.mul_add, Nat.mul_one, ← e1]
 have h1 := hs (2 * q) oQ
 have h2 := hs (2 * q + 1) oQ
 rw [← e1, Nat.min_eq_left (by omega)] at h1
 rw [← e2, Nat.min_eq_left oQ, show a + B + B = 2 * B + a by omega] at h2
 exact ⟨h1, h2⟩
theorem Mrg.step {ys zs : List α} {B a : Nat} (hB : 0 < B) (h : Mrg key ys B a) (hb : 2 * B + a ≤ ys.length) (hz : StS key (Bq ys a (2 * B + a)) zs) : Mrg key (Cw ys a (2 * B + a) zs) B (2 * B + a) := by
 have e : 2 * B + a = a + 2 * B := by omega
 rw [e] at hb hz ⊢
 have hzl : zs.length = a + 2 * B - a := by rw [hz.same.length, Aq hb]
 refine ⟨h.1.step oQ hb hz, fun i hi => ?_⟩
 rw [A9 oQ hb hzl, Eh oQ hb hzl (.inr hi)]
 exact h.2 i oQ
theorem Mrg.mL {ys : List α} {B a : Nat} (h : Mrg key ys B a) (h1 : a + B < ys.length) (hb : ys.length < 2 * B + a) : Hx key (Bq ys a (a + B)) ∧ Hx key (Bq ys (a + B) ys.length) := by
 obtain ⟨⟨⟨q, hq⟩, _⟩, hs⟩ := h
 have e1 : a = B * (2 * q) := by rw [hq, Nat.mul_comm 2 B, Nat.mul_assoc]
 have e2 : a + B = B * (2 * q + 1) := by rw [Nat.mul_add, Nat.mul_one, ← e1]
 have k1 := hs (2 * q) oQ
 have k2 := hs (2 * q + 1) oQ
 rw [← e1, Nat.min_eq_left (by omega)] at k1
 rw [← e2, Nat.min_eq_right (by omega)] at k2
 exact ⟨k1, k2⟩
theorem Mrg.last {ys zs : List α} {B a : Nat} (h : Mrg key ys B a) (ha : a ≤ ys.length) (hb : ys.length < 2 * B + a) (hz : StS key (Bq ys a ys.length) zs) : Bks key (Cw ys a ys.length zs) (2 * B) := h.1.last ha oQ hz
theorem Mrg.done {ys : List α} {B a : Nat} (h : Mrg key ys B a) (ha : a ≤ ys.length) (hb : ys.length < 2 * B + a) (h1 : ¬ a + B < ys.length) : Bks key ys (2 * B) := by
 have hs : Hx key (Bq ys a ys.length) := by
   obtain ⟨⟨⟨q, hq⟩, _⟩, hs⟩ := h
   have e1 : a = B * (2 * q) := by rw [hq, Nat.mul_comm 2 B, Nat.mul_assoc]
   have k1 := hs (2 * q) oQ
   rw [← e1, Nat.min_eq_right (by omega)] at k1
   exact k1
 have := h.last ha hb (StS.refl hs)
 rwa [Df ha (Nat.le_refl _)] at this
theorem Bks.all {xs ys : List α} {B : Nat} (h : Bks key ys B) (hB : ys.length ≤ B) (hs : sameF key xs ys) : StS key xs ys := by
 have := h 0
 rw [Nat.mul_zero, Nat.zero_add, Nat.min_eq_right hB, mI] at this
 exact ⟨this, hs⟩
theorem sameF.step {xs ys zs : List α} {a b : Nat} (h : sameF key xs ys) (h1 : a ≤ b) (hb : b ≤ ys.length) (hz : StS key (Bq ys a b) zs) : sameF key xs (Wx.Cw ys a b zs) := h.trans (sameF.Cw h1 hb hz.same)
def dZ (key : α → K2) (x : α) : List α → List α
 | [] => [x]
 | y :: l => if Gc (key x) (key y) = true then x :: y :: l else y :: dZ key x l
def Iv (key : α → K2) (l : List α) : List α := l.foldl (fun acc x => dZ key x acc) []
theorem Wu (x : α) : ∀ (l : List α), Hx key l → ∃ p, dZ key x l = Ay l x p ∧ p ≤ l.length ∧ (∀ y ∈ l.drop p, Gc (key x) (key y) = true) ∧ (p = 0 ∨ ∃ y, l[p - 1]? = some y ∧ Gc (key x) (key y) = false)
 | [], _ => ⟨0, rfl, Nat.le_refl _, by simp, .inl rfl⟩
 | y :: l, h => by
   unfold dZ
   split
   · rename_i hlt
     refine ⟨0, by simp [Ay], Nat.zero_le _, fun z hz => ?_, .inl rfl⟩
     rcases List.mem_cons.1 (by simpa using hz : z ∈ y :: l) with rfl | hz
     · exact hlt
     exact Lx hlt ((List.pairwise_cons.1 h).1 z hz)
   rename_i hlt
   obtain ⟨p, e, hp, h1, h2⟩ := Wu x l (List.pairwise_cons.1 h).2
   refine ⟨p + 1, by rw [e]; rfl, by simpa using hp, by simpa using h1, .inr ?_⟩
   rcases h2 with rfl | ⟨z, hz, hl⟩
   · exact ⟨y, rfl, by simpa using hlt⟩
   refine ⟨z, ?_, hl⟩
   have : 0 < p := by
     rcases Nat.eq_zero_or_pos p with rfl | h
     · rw [Nat.zero_sub] at hz
       cases l with
       | nil => simp at hz
       | cons w l =>
         exfalso
         simp at hz; subst hz
         have := h1 w (by simp)
         rw [hl] at this; cases this
     exact h
   rw [show p + 1 - 1 = (p - 1) + 1 by omega, List.getElem?_cons_succ]
   exact hz
theorem Fo (l : List α) : StS key l (Iv key l) := by
 suffices h : ∀ (r done acc : List α), StS key done acc → StS key (done ++ r) (r.foldl (fun acc x => dZ key x acc) acc) by
   have := h l [] [] ⟨List.Pairwise.nil, fun _ => rfl⟩
   simpa [Iv] using this
 intro r
 induction r with
 | nil => intro done acc h; simpa using h
 | cons x r ih =>
   intro done acc h
   obtain ⟨p, e, hp, h1, h2⟩ := Wu (key := key) x acc h.ord
   have := ih (done ++ [x]) (dZ key x acc) (by rw [e]; exact h.snoc hp h1 h2)
   simpa using this
theorem StS.eq {l s : List α} (h : StS key l s) : s = Iv key l := h.unique (Fo l)
end
end Go.Wx
end
