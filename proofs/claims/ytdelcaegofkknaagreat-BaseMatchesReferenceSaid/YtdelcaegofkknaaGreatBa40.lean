import Derived.Test.YtdelcaegofkknaaGreatBa39
namespace Go.Wx

section
variable {P : Program} {n : Nat} {ds : List Deferred} {l : Env} {w : World} {d : Option Tmp} {ty : TypeId} {ps : String} {af : Array Edge} {g : Option (Nat × Bool)}
theorem PEv.gtrStr {T T' : TypeId} {x y : Operand} {a b : ByteArray} (hx : Val l x (.string a)) (hy : Val l y (.string b)) : PEv P n ds l w ⟨d, .binOp .gtr T x y T', ty, ps, af, g⟩ (.bool (!(Op.bytesLess a.toList b.toList || (a.toList == b.toList)))) := fun ac w' ha _ => by
  refine run_v ?_
  rw [ha.ev hx, ha.ev hy, Sem.run_bind]
  have : (eqGuard .gtr T x y (.string a) (.string b)).run P w' = .ok () w' := by unfold eqGuard; rfl
  rw [this]
  simp [binOp, Op.stringOp]
end
theorem less_cmp : ∀ (a b : List UInt8), (!(Op.bytesLess a b || (a == b))) = decide (0 < Go.Lib.compareBytes a b)
  | [], [] => rfl
  | [], _ :: _ => rfl
  | _ :: _, [] => rfl
  | x :: a, y :: b => by
    have ih := less_cmp a b
    unfold Op.bytesLess Go.Lib.compareBytes
    by_cases h1 : x < y
    · simp [h1]
    · by_cases h2 : y < x
      · have hne : x ≠ y := fun e => by subst e; exact h1 h2
        simp [h1, h2, hne]
      · have e : x = y := by
          have h1' : ¬ x.toNat < y.toNat := h1
          have h2' : ¬ y.toNat < x.toNat := h2
          exact UInt8.toNat_inj.1 (by omega)
        subst e
        simp only [h1, if_false, decide_false, Bool.false_or]
        rw [← ih]
        simp
theorem bytes_app2 (a b : List UInt8) : (⟨a.toArray⟩ : ByteArray) ++ (⟨b.toArray⟩ : ByteArray) = ⟨(a ++ b).toArray⟩ := by rw [bytes_app]
theorem prev_ne {a b : Fact} (h : keyB a ≠ keyB b) : prevB a b = false := by simp [prevB, h]
theorem vals_key {k : Int} (h : 1 ≤ k ∧ k ≤ 11) (f : Fact) : (kfL k).map (getN f) = valsOf (keyFOf k) f := by
  have : k = 1 ∨ k = 2 ∨ k = 3 ∨ k = 4 ∨ k = 5 ∨ k = 6 ∨ k = 7 ∨ k = 8 ∨ k = 9 ∨ k = 10 ∨ k = 11 := by omega
  rcases this with rfl | rfl | rfl | rfl | rfl | rfl | rfl | rfl | rfl | rfl | rfl <;> rfl
theorem vals_fld {k : Int} (h : 1 ≤ k ∧ k ≤ 11) (f : Fact) : (fldR k).map (getN f) = valsOf (fieldsOf k) f := by
  have : k = 1 ∨ k = 2 ∨ k = 3 ∨ k = 4 ∨ k = 5 ∨ k = 6 ∨ k = 7 ∨ k = 8 ∨ k = 9 ∨ k = 10 ∨ k = 11 := by omega
  rcases this with rfl | rfl | rfl | rfl | rfl | rfl | rfl | rfl | rfl | rfl | rfl <;> rfl
theorem kf_len2 (k : Int) : (kfL k).length ≤ 2 := by unfold kfL; (repeat' split) <;> simp
theorem prevR_val {a b : Fact} (ha : validB a = true) (hb : validB b = true) (hk : keyB a = keyB b) : (decide (b.Version < a.Version) || (decide (a.Version = b.Version) && (!(Op.bytesLess (⟨(codeB a).toArray⟩ : ByteArray).toList (⟨(codeB b).toArray⟩ : ByteArray).toList || ((⟨(codeB a).toArray⟩ : ByteArray).toList == (⟨(codeB b).toArray⟩ : ByteArray).toList))))) = prevB a b := by
  rw [less_cmp, ba_toList, ba_toList]
  unfold prevB codeB
  rw [ha, hb, hk]
  simp

end Go.Wx
namespace Go.Proofs.YtdelcaegofkknaaGreat
open Go.Wx Go.RowKit
theorem rput_any (ad : Option Addr) (cp : Nat) (f : Fact) (l : List Int) (w : World) (hE : Els w ad 1 eInt l) (hl : ∀ n ∈ l, 0 ≤ n ∧ n < 14) (hlen : l.length ≤ 1000) : Ret Tryz.prog 72 #[.agg f.cells, .slice ad l.length cp] w fun r w' => r = .string ⟨(encIs (l.map (getN f))).toArray⟩ ∧ Up w w' := by
  have hW := Up.refl w
  obtain ⟨w0, rfl⟩ : ∃ w0, w0 = w := ⟨_, rfl⟩
  refine Calls_start (n := 29) (m := 9) Tryz.func72 rfl rfl rfl ?_
  refine CW.seq (CW.region ?_)
  refine LW.r (REv.boxA (.tmp rfl)) rfl rfl rfl rfl ?_
  rintro _ w1 ⟨B2, rfl, NB2⟩
  have eB2 := NB2.at_
  have zB2 := NB2.size
  replace hW := hW.up NB2.up
  have hB2 := NB2.blk
  refine LW.p (PEv.assign (.const _)) rfl rfl rfl (LW.nil (KW.then (CW.seq (CW.region (LW.p (PEv.assign (.const _)) rfl rfl rfl (LW.nil (KW.then (CW.seq (CW.seq (CW.region (LW.p (PEv.assign (.const _)) rfl rfl rfl (LW.nil (KW.then ?_)))))))))))))
  refine CW.block ?_
  refine CW.loopB (σ := Nat) (fun s w => (s ≤ l.length) ∧ (Up w0 w) ∧ (Blk w B2 f.cells 35)) (fun s => [(6, .eq (vi (s : Int))), (5, .eq (.string ⟨(encIs ((l.map (getN f)).take s)).toArray⟩))]) ([(1, .eq _), (2, .eq _), (4, .eq _)]) (fun s => l.length - s) 0 ?_ ⟨rfl, rfl, rfl, rfl, rfl, trivial⟩ ?_
  ·exact ⟨Nat.zero_le _, hW, hB2⟩
  ·rintro k w2 ⟨hk, hW, hB2⟩
   refine CW.seq (CW.seq (CW.region (LW.p (PEv.move (.tmp rfl)) rfl rfl rfl (LW.p (PEv.move (.tmp rfl)) rfl rfl rfl ?_))))
   refine LW.p (PEv.lenS Tryz.underlying92 (.tmp rfl)) rfl rfl rfl ?_
   refine LW.p (PEv.lss (.tmp rfl) (.tmp rfl)) rfl rfl rfl ?_
   refine LW.nil (KW.then ?_)
   refine CW.cond (.tmp rfl) (fun h12 => ?_) (fun h12 => ?_)
   ·first | replace h12 := of_decide_eq_true h12 | replace h12 := of_decide_eq_false h12 | skip
    refine CW.skip (KW.then (CW.seq (CW.block (CW.seq ?_))))
    obtain ⟨x, hx⟩ := getElem?_of_lt (xs := l) (i := k) (by omega)
    obtain ⟨Bx, ox, ax, hcx⟩ := (Els.up hE hW) k x hx
    obtain ⟨hx0, hx14⟩ := hl x (List.mem_of_getElem? hx)
    obtain ⟨n, rfl⟩ : ∃ n : Nat, x = (n : Int) := ⟨x.toNat, by omega⟩
    have hn14 : n < 14 := by omega
    have hLx : (l.map (getN f))[k]? = some (getN f (n : Int)) := by simp [hx]
    refine CW.draws (by kernel_rfl) (by kernel_rfl) rfl rfl ?_
    refine HW.p (PEv.loadA Tryz.isAgg35 Tryz.sizeOf35 rfl (.tmp rfl) (hB2.agg)) rfl rfl ?_
    refine HW.p (PEv.move (.tmp rfl)) rfl rfl ?_
    refine HW.p (PEv.move (.tmp rfl)) rfl rfl ?_
    refine HW.p (PEv.indexAddr' Tryz.underlying92 Tryz.sizeOf3 (.tmp rfl) (.tmp rfl) (by omega) ax) rfl rfl ?_
    refine HW.p (PEv.load Tryz.isAgg3 (.tmp rfl) (hcx.nth (j := 0) rfl)) rfl rfl ?_
    refine HW.c (fun a w _ ha => enter_call0 (.cons (.tmp rfl) (.cons (.tmp rfl) .nil)) (Tryz.en77) a ha) rfl rfl (fun w hu => Get_any f n _ hn14) ?_
    refine HW.c (fun a w _ ha => enter_call0 (.cons (.tmp rfl) .nil) (Tryz.en71) a ha) rfl rfl (fun w hu => rPutInt_any (getN f (n : Int)) _) ?_
    refine HW.p (PEv.move (.tmp rfl)) rfl rfl ?_
    refine HW.p (PEv.extract (.tmp rfl) rfl) rfl rfl ?_
    refine HW.p (PEv.extract (.tmp rfl) rfl) rfl rfl ?_
    refine HW.p (PEv.assign (.tmp rfl)) rfl rfl ?_
    refine HW.p (PEv.assign (.tmp rfl)) rfl rfl ?_
    refine HW.nil ?_
    intro w3 uw3
    have zw3 := uw3.size
    replace hW := hW.up uw3
    replace hB2 := hB2.up uw3
    refine KW.then (CW.region (LW.p (PEv.move (.tmp rfl)) rfl rfl rfl (LW.p (PEv.move (.tmp rfl)) rfl rfl rfl ?_)))
    refine LW.p (PEv.val (v' := .string ⟨(encIs ((l.map (getN f)).take (k + 1))).toArray⟩) (PEv.addStr (.tmp rfl) (.tmp rfl) (by rw [enc_size, enc_size]; have := encI_len (getN f (n : Int)); have := encIs_len ((l.map (getN f)).take k); have := List.length_take_le k (l.map (getN f)); omega)) (by rw [bytes_app2, encIs_take hLx])) rfl rfl rfl ?_
    refine LW.p (PEv.assign (.tmp rfl)) rfl rfl rfl (LW.nil (KW.inBlock (KW.then (CW.region (LW.p (PEv.move (.tmp rfl)) rfl rfl rfl ?_)))))
    refine LW.p (PEv.inc (.tmp rfl) (by omega)) rfl rfl rfl ?_
    refine LW.p (PEv.assign (.tmp rfl)) rfl rfl rfl (LW.nil (KW.round ?_))
    exact ⟨k + 1, ⟨by omega, hW, hB2⟩, ⟨rfl, rfl, rfl, rfl, rfl, trivial⟩, by first | omega | (dsimp only; omega)⟩
   ·first | replace h12 := of_decide_eq_true h12 | replace h12 := of_decide_eq_false h12 | skip
    refine CW.exit (KW.then_exit (KW.then_exit (KW.block_hit (KW.then (CW.seq (CW.region (LW.p (PEv.move (.tmp rfl)) rfl rfl rfl (LW.p (PEv.assign (.tmp rfl)) rfl rfl rfl (LW.nil (KW.then (CW.ret ?_)))))))))))
    refine KW.ret1 rfl rfl ⟨_, rfl, ?_⟩
    refine ⟨?_, hW⟩
    rw [List.take_of_length_le (by rw [List.length_map]; omega)]

theorem rKey_any (f : Fact) (w : World) : Ret Tryz.prog 31 #[.agg f.cells] w fun r w' => r = .string ⟨(keyB f).toArray⟩ ∧ Up w w' := by
  have hW := Up.refl w
  obtain ⟨w0, rfl⟩ : ∃ w0, w0 = w := ⟨_, rfl⟩
  refine Calls_start (n := 23) (m := 9) Tryz.func31 rfl rfl rfl ?_
  refine CW.seq (CW.region ?_)
  refine LW.r (REv.boxA (.tmp rfl)) rfl rfl rfl rfl ?_
  rintro _ w1 ⟨B1, rfl, NB1⟩
  have eB1 := NB1.at_
  have zB1 := NB1.size
  replace hW := hW.up NB1.up
  have hB1 := NB1.blk
  refine LW.p (PEv.assign (.const _)) rfl rfl rfl (LW.nil (KW.then (CW.seq (CW.region ?_))))
  refine LW.p (PEv.loadA Tryz.isAgg35 Tryz.sizeOf35 rfl (.tmp rfl) (hB1.agg)) rfl rfl rfl ?_
  refine LW.c (enter_call0 (.cons (.tmp rfl) .nil) (Tryz.en70)) rfl rfl rfl rfl (rValid_any f _) ?_
  rintro _ w2 ⟨rfl, uw2⟩
  have zw2 := uw2.size
  replace hW := hW.up uw2
  replace hB1 := hB1.up uw2
  refine LW.p (PEv.assign (.tmp rfl)) rfl rfl rfl (LW.nil (KW.then (CW.seq (CW.seq ?_))))
  cases hq2 : validB f with
  | true =>
   refine CW.region (LW.p (PEv.move (.tmp rfl)) rfl rfl rfl ?_)
   refine LW.p (PEv.fa (PEv.not (.tmp rfl)) (rfl)) rfl rfl rfl ?_
   refine LW.nil (KW.then ?_)
   refine CW.cond_false (.tmp rfl) ?_
   refine CW.skip (KW.then (CW.seq (CW.region ?_)))
   refine LW.p (PEv.fieldAddr (off := 0) Tryz.underlying35 rfl rfl Tryz.sizeOf3 rfl (.tmp rfl)) rfl rfl rfl ?_
   refine LW.p (PEv.load Tryz.isAgg3 (.tmp rfl) (hB1.celln rfl)) rfl rfl rfl ?_
   refine LW.c (enter_call0 (.cons (.tmp rfl) .nil) (Tryz.en71)) rfl rfl rfl rfl (rPutInt_any f.Kind _) ?_
   rintro _ w3 ⟨rfl, uw3⟩
   have zw3 := uw3.size
   replace hW := hW.up uw3
   replace hB1 := hB1.up uw3
   refine LW.p (PEv.move (.tmp rfl)) rfl rfl rfl (LW.p (PEv.extract (.tmp rfl) rfl) rfl rfl rfl (LW.p (PEv.extract (.tmp rfl) rfl) rfl rfl rfl (LW.p (PEv.assign (.tmp rfl)) rfl rfl rfl (LW.p (PEv.assign (.tmp rfl)) rfl rfl rfl (LW.nil (KW.then (CW.seq ?_)))))))
   refine CW.free 7 [.eq (.string ⟨(encI f.Kind).toArray⟩), .eq (.agg f.cells), .eq (.pointer (some ⟨B1, 0, none⟩)), .eq (vi f.Kind), .pred fun v W => Sl W v 1 eInt (kfL f.Kind), .eq (.string ⟨(encIs ((kfL f.Kind).map (getN f))).toArray⟩), .eq (.string ⟨(encIs (keyL f)).toArray⟩)] [22] (by kernel_rfl) rfl (by kernel_rfl) (by kernel_rfl) (by kernel_rfl) (by kernel_rfl) (by kernel_rfl) (by kernel_rfl) (by kernel_rfl) ⟨PhU.eq _, PhU.eq _, PhU.eq _, PhU.eq _, PhU.pred fun _ _ _ h u => Sl.up h u, PhU.eq _, PhU.eq _, trivial⟩ ?_ ?_
   ·intro W hU0
    have hU := (Up.drew w3).trans hU0
    refine allL.cons ⟨rfl, TU.p (PEv.move (.tmp rfl)) rfl⟩ ?_
    refine allL.cons ⟨rfl, TU.p (PEv.loadA Tryz.isAgg35 Tryz.sizeOf35 rfl (.tmp rfl) ((hB1.up hU).agg)) rfl⟩ ?_
    refine allL.cons ⟨rfl, TU.p (PEv.fieldAddr (off := 0) Tryz.underlying35 rfl rfl Tryz.sizeOf3 rfl (.tmp rfl)) rfl⟩ ?_
    refine allL.cons ⟨rfl, TU.p (PEv.load Tryz.isAgg3 (.tmp rfl) ((hB1.up hU).celln rfl)) rfl⟩ ?_
    refine allL.cons ⟨rfl, TU.c (enter_call0 (.cons (.tmp rfl) .nil) (Tryz.en73)) (KeyFields_any f.Kind W) (fun v W' h => let ⟨ad, cp, e, hE, u⟩ := h; ⟨u, ad, cp, e, hE⟩)⟩ ?_
    refine allL.cons ⟨rfl, TU.open (d := 20) rfl fun v hv => by obtain ⟨ad, cp, rfl, hE⟩ := hv; exact TU.c (enter_call0 (.cons (.tmp rfl) (.cons (.tmp rfl) .nil)) (Tryz.en72)) (rput_any ad cp f (kfL f.Kind) W hE (fun n h => kf_lt h) (by have := kf_len2 f.Kind; omega)) (fun v W' h => ⟨h.2, h.1⟩)⟩ ?_
    refine allL.cons ⟨rfl, TU.p (PEv.val (v' := .string ⟨(encIs (keyL f)).toArray⟩) (PEv.addStr (.tmp rfl) (.tmp rfl) (by rw [enc_size, enc_size]; have := encI_len f.Kind; have := encIs_len ((kfL f.Kind).map (getN f)); rw [List.length_map] at this; have := kf_len2 f.Kind; omega)) (by rw [bytes_app2]; rw [vals_key (valid_kind hq2)]; unfold keyL encIs; rfl)) rfl⟩ ?_
    exact allL.nil
   ·intro w4 g hU0 hg
    have hU := (Up.drew w3).trans hU0
    have zw4 := hU.size
    replace hW := hW.up hU
    replace hB1 := hB1.up hU
    have h22 : g 22 = .string ⟨(encIs (keyL f)).toArray⟩ := hg 6 _ 22 (by decide) rfl rfl
    change LW _ _ _ _ _ _ _ _ ((22, .eq (g 22)) :: _) _
    rw [h22]
    refine LW.p (PEv.assign (.tmp rfl)) rfl rfl rfl (LW.nil (KW.then (CW.ret ?_)))
    refine KW.ret1 rfl rfl ⟨_, rfl, ?_⟩
    first | (rw [show keyB f = encIs (keyL f) from if_pos hq2]; exact ⟨rfl, hW⟩) | (rw [show keyB f = [] from if_neg (by rw [hq2]; exact Bool.false_ne_true)]; exact ⟨rfl, hW⟩)
  | false =>
   refine CW.region (LW.p (PEv.move (.tmp rfl)) rfl rfl rfl ?_)
   refine LW.p (PEv.tr (PEv.not (.tmp rfl)) (rfl)) rfl rfl rfl ?_
   refine LW.nil (KW.then ?_)
   refine CW.cond_true (.tmp rfl) ?_
   refine CW.seq (CW.region (LW.p (PEv.assign (.const _)) rfl rfl rfl (LW.nil (KW.then (CW.ret (KW.then_ret ?_))))))
   refine KW.ret1 rfl rfl ⟨_, rfl, ?_⟩
   first | (rw [show keyB f = encIs (keyL f) from if_pos hq2]; exact ⟨rfl, hW⟩) | (rw [show keyB f = [] from if_neg (by rw [hq2]; exact Bool.false_ne_true)]; exact ⟨rfl, hW⟩)

set_option maxHeartbeats 2000000 in
theorem rEncode_any (f : Fact) (w : World) : Ret Tryz.prog 74 #[.agg f.cells] w fun r w' => r = .tuple #[.string ⟨(codeB f).toArray⟩, vi (codeE f)] ∧ Up w w' := by
  have hW := Up.refl w
  obtain ⟨w0, rfl⟩ : ∃ w0, w0 = w := ⟨_, rfl⟩
  refine Calls_start (n := 61) (m := 9) Tryz.func74 rfl rfl rfl ?_
  refine CW.seq (CW.region ?_)
  refine LW.r (REv.boxA (.tmp rfl)) rfl rfl rfl rfl ?_
  rintro _ w1 ⟨B1, rfl, NB1⟩
  have eB1 := NB1.at_
  have zB1 := NB1.size
  replace hW := hW.up NB1.up
  have hB1 := NB1.blk
  refine LW.p (PEv.assign (.const _)) rfl rfl rfl (LW.p (PEv.assign (.const _)) rfl rfl rfl (LW.nil (KW.then (CW.seq (CW.region ?_)))))
  refine LW.p (PEv.loadA Tryz.isAgg35 Tryz.sizeOf35 rfl (.tmp rfl) (hB1.agg)) rfl rfl rfl ?_
  refine LW.c (enter_call0 (.cons (.tmp rfl) .nil) (Tryz.en70)) rfl rfl rfl rfl (rValid_any f _) ?_
  rintro _ w2 ⟨rfl, uw2⟩
  have zw2 := uw2.size
  replace hW := hW.up uw2
  replace hB1 := hB1.up uw2
  refine LW.p (PEv.assign (.tmp rfl)) rfl rfl rfl (LW.nil (KW.then (CW.seq (CW.seq ?_))))
  cases hq2 : validB f with
  | true =>
   refine CW.region (LW.p (PEv.move (.tmp rfl)) rfl rfl rfl ?_)
   refine LW.p (PEv.fa (PEv.not (.tmp rfl)) (rfl)) rfl rfl rfl ?_
   refine LW.nil (KW.then ?_)
   refine CW.cond_false (.tmp rfl) ?_
   refine CW.skip (KW.then (CW.seq (CW.region (LW.p (PEv.assign (.const _)) rfl rfl rfl (LW.nil (KW.then (CW.seq (CW.region (LW.p (PEv.assign (.const _)) rfl rfl rfl (LW.nil (KW.then (CW.seq (CW.seq ?_)))))))))))))
   cases hq6 : f.Gone with
   | true =>
    have eFl : flagI f.Gone = 1 := by rw [hq6]; rfl
    obtain ⟨H4, eH4⟩ : ∃ H : List Int, H = [f.Kind, f.Version, f.Day, 1] := ⟨_, rfl⟩
    have hH4 : H4.length = 4 := by rw [eH4]; rfl
    refine CW.region ?_
    refine LW.p (PEv.fieldAddr (off := 4) Tryz.underlying35 rfl rfl Tryz.sizeOf4 rfl (.tmp rfl)) rfl rfl rfl ?_
    refine LW.p (PEv.tr (PEv.load Tryz.isAgg4 (.tmp rfl) (hB1.celln rfl)) (hq6)) rfl rfl rfl ?_
    refine LW.nil (KW.then ?_)
    refine CW.cond_true (.tmp rfl) ?_
    refine CW.region (LW.p (PEv.assign (.const _)) rfl rfl rfl (LW.nil (KW.then (CW.seq (CW.seq (CW.region ?_))))))
    refine LW.p (PEv.fieldAddr (off := 0) Tryz.underlying35 rfl rfl Tryz.sizeOf3 rfl (.tmp rfl)) rfl rfl rfl ?_
    refine LW.p (PEv.load Tryz.isAgg3 (.tmp rfl) (hB1.celln rfl)) rfl rfl rfl ?_
    refine LW.p (PEv.fieldAddr (off := 2) Tryz.underlying35 rfl rfl Tryz.sizeOf3 rfl (.tmp rfl)) rfl rfl rfl ?_
    refine LW.p (PEv.load Tryz.isAgg3 (.tmp rfl) (hB1.celln rfl)) rfl rfl rfl ?_
    refine LW.p (PEv.fieldAddr (off := 3) Tryz.underlying35 rfl rfl Tryz.sizeOf3 rfl (.tmp rfl)) rfl rfl rfl ?_
    refine LW.p (PEv.load Tryz.isAgg3 (.tmp rfl) (hB1.celln rfl)) rfl rfl rfl ?_
    refine LW.p (PEv.move (.tmp rfl)) rfl rfl rfl ?_
    refine LW.r (REv.buildSlice (xs := [f.Kind, f.Version, f.Day, 1]) (enc := eInt) (mk := vi) Tryz.underlying92 Tryz.sizeOf3 Tryz.zeroValue3 rfl (by decide) (fun _ => rfl) (fun _ => rfl) (.cons (.tmp rfl) (.cons (.tmp rfl) (.cons (.tmp rfl) (.cons (.tmp rfl) .nil)))) rfl) rfl rfl rfl rfl ?_
    rintro _ w3 ⟨B26, cB26, rfl, NB26, yB26, xB26⟩
    have eB26 := NB26.at_
    have zB26 := NB26.size
    replace hW := hW.up NB26.up
    replace hB1 := hB1.up NB26.up
    have hB26 := NB26.blk
    have hE26 := xB26
    refine LW.p (PEv.lenS Tryz.underlying92 (.tmp rfl)) rfl rfl rfl ?_
    refine LW.p (PEv.move (.const _)) rfl rfl rfl ?_
    refine LW.nil (KW.then (CW.block ?_))
    refine CW.loopB (σ := Nat) (fun s w => (s ≤ 4) ∧ (Up w0 w) ∧ (Blk w B1 f.cells 35) ∧ (Els w (some ⟨B26, 0, none⟩) 1 eInt H4)) (fun s => [(28, .eq (vi (s : Int))), (5, .eq (.string ⟨(encIs (H4.take s)).toArray⟩))]) ([(1, .eq _), (2, .eq _), (3, .eq _), (26, .eq _), (27, .eq _)]) (fun s => 4 - s) 0 ?_ ⟨rfl, rfl, rfl, rfl, rfl, rfl, rfl, trivial⟩ ?_
    ·exact ⟨Nat.zero_le _, hW, hB1, by rw [eH4]; exact hE26⟩
    ·rintro k w4 ⟨hk, hW, hB1, hE26⟩
     refine CW.seq (CW.region ?_)
     refine LW.p (PEv.lss (.tmp rfl) (.tmp rfl)) rfl rfl rfl ?_
     refine LW.nil (KW.then (CW.seq ?_))
     refine CW.cond (.tmp rfl) (fun h29 => ?_) (fun h29 => ?_)
     ·first | replace h29 := of_decide_eq_true h29 | replace h29 := of_decide_eq_false h29 | skip
      skip
      refine CW.skip (KW.then (CW.seq (CW.block (CW.seq ?_))))
      have hk4 : k < 4 := by have := h29; simp at this; omega
      obtain ⟨x, hx⟩ := getElem?_of_lt (xs := H4) (i := k) (by omega)
      obtain ⟨Bx, ox, ax, hcx⟩ := hE26 k x hx
      refine CW.region ?_
      refine LW.p (PEv.indexAddr' Tryz.underlying92 Tryz.sizeOf3 (.tmp rfl) (.tmp rfl) (by show k < 4; omega) ax) rfl rfl rfl ?_
      refine LW.p (PEv.load Tryz.isAgg3 (.tmp rfl) (hcx.nth (j := 0) rfl)) rfl rfl rfl ?_
      refine LW.p (PEv.assign (.tmp rfl)) rfl rfl rfl (LW.nil (KW.then (CW.seq (CW.region (LW.p (PEv.move (.tmp rfl)) rfl rfl rfl ?_)))))
      refine LW.c (enter_call0 (.cons (.tmp rfl) .nil) (Tryz.en71)) rfl rfl rfl rfl (rPutInt_any x _) ?_
      rintro _ w5 ⟨rfl, uw5⟩
      have zw5 := uw5.size
      replace hW := hW.up uw5
      replace hB1 := hB1.up uw5
      replace hE26 := hE26.up uw5
      refine LW.p (PEv.move (.tmp rfl)) rfl rfl rfl (LW.p (PEv.extract (.tmp rfl) rfl) rfl rfl rfl (LW.p (PEv.extract (.tmp rfl) rfl) rfl rfl rfl (LW.p (PEv.assign (.tmp rfl)) rfl rfl rfl (LW.p (PEv.assign (.tmp rfl)) rfl rfl rfl (LW.nil (KW.then ?_))))))
      have hH4t := List.length_take_le k H4
      refine CW.region (LW.p (PEv.move (.tmp rfl)) rfl rfl rfl (LW.p (PEv.move (.tmp rfl)) rfl rfl rfl ?_))
      refine LW.p (PEv.val (v' := .string ⟨(encIs (H4.take (k + 1))).toArray⟩) (PEv.addStr (.tmp rfl) (.tmp rfl) (by rw [enc_size, enc_size]; have := encI_len x; have := encIs_len (H4.take k); omega)) (by rw [bytes_app2, encIs_take hx])) rfl rfl rfl ?_
      refine LW.p (PEv.assign (.tmp rfl)) rfl rfl rfl (LW.nil (KW.inBlock (KW.then (CW.region ?_))))
      refine LW.p (PEv.inc (.tmp rfl) (by omega)) rfl rfl rfl ?_
      refine LW.p (PEv.move (.tmp rfl)) rfl rfl rfl (LW.nil (KW.round ?_))
      exact ⟨k + 1, ⟨by omega, hW, hB1, hE26⟩, ⟨rfl, rfl, rfl, rfl, rfl, rfl, rfl, trivial⟩, by first | omega | (dsimp only; omega)⟩
     ·first | replace h29 := of_decide_eq_true h29 | replace h29 := of_decide_eq_false h29 | skip
      refine CW.exit (KW.then_exit (KW.then_exit (KW.block_hit (KW.then (CW.seq ?_)))))
      have hk4 : k = 4 := by have := h29; simp at this; omega
      subst hk4
      refine CW.free 7 [.eq (.string ⟨(encIs H4).toArray⟩), .eq (.agg f.cells), .eq (.pointer (some ⟨B1, 0, none⟩)), .eq (vi f.Kind), .pred fun v W => Sl W v 1 eInt (fldR f.Kind), .eq (.string ⟨(encIs ((fldR f.Kind).map (getN f))).toArray⟩), .eq (.string ⟨(encIs (encL f)).toArray⟩)] [47] (by kernel_rfl) rfl (by kernel_rfl) (by kernel_rfl) (by kernel_rfl) (by kernel_rfl) (by kernel_rfl) (by kernel_rfl) (by kernel_rfl) ⟨PhU.eq _, PhU.eq _, PhU.eq _, PhU.eq _, PhU.pred fun _ _ _ h u => Sl.up h u, PhU.eq _, PhU.eq _, trivial⟩ ?_ ?_
      ·intro W hU0
       have hU := (Up.drew w4).trans hU0
       refine allL.cons ⟨rfl, TU.p (PEv.val (v' := .string ⟨(encIs H4).toArray⟩) (PEv.move (.tmp rfl)) (by rw [List.take_of_length_le (by omega)])) rfl⟩ ?_
       refine allL.cons ⟨rfl, TU.p (PEv.loadA Tryz.isAgg35 Tryz.sizeOf35 rfl (.tmp rfl) ((hB1.up hU).agg)) rfl⟩ ?_
       refine allL.cons ⟨rfl, TU.p (PEv.fieldAddr (off := 0) Tryz.underlying35 rfl rfl Tryz.sizeOf3 rfl (.tmp rfl)) rfl⟩ ?_
       refine allL.cons ⟨rfl, TU.p (PEv.load Tryz.isAgg3 (.tmp rfl) ((hB1.up hU).celln rfl)) rfl⟩ ?_
       refine allL.cons ⟨rfl, TU.c (enter_call0 (.cons (.tmp rfl) .nil) (Tryz.en106)) (rFields_any f.Kind W) (fun v W' h => let ⟨ad, cp, e, hE, u⟩ := h; ⟨u, ad, cp, e, hE⟩)⟩ ?_
       refine allL.cons ⟨rfl, TU.open (d := 45) rfl fun v hv => by obtain ⟨ad, cp, rfl, hE⟩ := hv; exact TU.c (enter_call0 (.cons (.tmp rfl) (.cons (.tmp rfl) .nil)) (Tryz.en72)) (rput_any ad cp f (fldR f.Kind) W hE (fldR_lt f.Kind) (by have := fldR_len f.Kind; omega)) (fun v W' h => ⟨h.2, h.1⟩)⟩ ?_
       refine allL.cons ⟨rfl, TU.p (PEv.val (v' := .string ⟨(encIs (encL f)).toArray⟩) (PEv.addStr (.tmp rfl) (.tmp rfl) (by rw [enc_size, enc_size]; have := encIs_len H4; have := encIs_len ((fldR f.Kind).map (getN f)); rw [List.length_map] at this; have := fldR_len f.Kind; omega)) (by rw [bytes_app2]; rw [vals_fld (valid_kind hq2), ← encIs_app, eH4]; unfold encL; rw [eFl])) rfl⟩ ?_
       exact allL.nil
      ·intro w6 g hU0 hg
       have hU := (Up.drew w4).trans hU0
       have zw6 := hU.size
       replace hW := hW.up hU
       replace hB1 := hB1.up hU
       replace hE26 := hE26.up hU
       have h47 : g 47 = .string ⟨(encIs (encL f)).toArray⟩ := hg 6 _ 47 (by decide) rfl rfl
       change LW _ _ _ _ _ _ _ _ ((47, .eq (g 47)) :: _) _
       rw [h47]
       refine LW.p (PEv.assign (.tmp rfl)) rfl rfl rfl (LW.nil (KW.then (CW.seq (CW.seq (CW.region ?_)))))
       refine LW.p (PEv.fieldAddr (off := 0) Tryz.underlying35 rfl rfl Tryz.sizeOf3 rfl (.tmp rfl)) rfl rfl rfl ?_
       refine LW.p (PEv.load Tryz.isAgg3 (.tmp rfl) (hB1.celln rfl)) rfl rfl rfl ?_
       refine LW.p (PEv.eql (.tmp rfl) (.const _)) rfl rfl rfl ?_
       refine LW.nil (KW.then ?_)
       refine CW.cond (.tmp rfl) (fun h50 => ?_) (fun h50 => ?_)
       ·first | replace h50 := of_decide_eq_true h50 | replace h50 := of_decide_eq_false h50 | skip
        have ht : textOf f.Kind = true := by unfold textOf; exact decide_eq_true h50
        refine CW.seq (CW.region ?_)
        refine LW.p (PEv.fieldAddr (off := 18) Tryz.underlying35 rfl rfl Tryz.sizeOf9 rfl (.tmp rfl)) rfl rfl rfl ?_
        refine LW.p (PEv.load Tryz.isAgg9 (.tmp rfl) (hB1.celln rfl)) rfl rfl rfl ?_
        refine LW.c (enter_call0 (.cons (.tmp rfl) .nil) (Tryz.en110)) rfl rfl rfl rfl (rPutString_any f.Text _ (by have := valid_text hq2; omega)) ?_
        rintro _ w7 ⟨rfl, uw7⟩
        have zw7 := uw7.size
        replace hW := hW.up uw7
        replace hB1 := hB1.up uw7
        replace hE26 := hE26.up uw7
        refine LW.p (PEv.move (.tmp rfl)) rfl rfl rfl (LW.p (PEv.extract (.tmp rfl) rfl) rfl rfl rfl (LW.p (PEv.extract (.tmp rfl) rfl) rfl rfl rfl (LW.p (PEv.assign (.tmp rfl)) rfl rfl rfl (LW.p (PEv.assign (.tmp rfl)) rfl rfl rfl (LW.nil (KW.then (CW.region (LW.p (PEv.move (.tmp rfl)) rfl rfl rfl (LW.p (PEv.move (.tmp rfl)) rfl rfl rfl ?_)))))))))
        refine LW.p (PEv.addStr (.tmp rfl) (.tmp rfl) (by rw [enc_size, enc_size]; have := encLen f; have := encT_len f.Text.data.toList; rw [ba_size] at this; have := valid_text hq2; omega)) rfl rfl rfl ?_
        refine LW.p (PEv.assign (.tmp rfl)) rfl rfl rfl (LW.nil (KW.then (CW.seq (CW.region (LW.p (PEv.move (.tmp rfl)) rfl rfl rfl (LW.p (PEv.assign (.tmp rfl)) rfl rfl rfl (LW.p (PEv.assign (.const _)) rfl rfl rfl (LW.nil (KW.then (CW.ret ?_))))))))))
        refine KW.ret2 rfl rfl rfl ⟨_, rfl, ?_⟩
        refine ⟨?_, hW⟩
        first | (rw [show codeB f = [] from if_neg (by rw [hq2]; exact Bool.false_ne_true), show codeE f = 150 from if_neg (by rw [hq2]; exact Bool.false_ne_true)]) | (rw [show codeB f = encB f from if_pos hq2, show codeE f = 0 from if_pos hq2]; unfold encB; rw [ht]; first | (rw [bytes_app2]; rfl) | (rw [if_neg Bool.false_ne_true, List.append_nil]))
       ·first | replace h50 := of_decide_eq_true h50 | replace h50 := of_decide_eq_false h50 | skip
        have ht : textOf f.Kind = false := by unfold textOf; exact decide_eq_false h50
        refine CW.skip (KW.then (CW.seq (CW.region (LW.p (PEv.move (.tmp rfl)) rfl rfl rfl (LW.p (PEv.assign (.tmp rfl)) rfl rfl rfl (LW.p (PEv.assign (.const _)) rfl rfl rfl (LW.nil (KW.then (CW.ret ?_)))))))))
        refine KW.ret2 rfl rfl rfl ⟨_, rfl, ?_⟩
        refine ⟨?_, hW⟩
        first | (rw [show codeB f = [] from if_neg (by rw [hq2]; exact Bool.false_ne_true), show codeE f = 150 from if_neg (by rw [hq2]; exact Bool.false_ne_true)]) | (rw [show codeB f = encB f from if_pos hq2, show codeE f = 0 from if_pos hq2]; unfold encB; rw [ht]; first | (rw [bytes_app2]; rfl) | (rw [if_neg Bool.false_ne_true, List.append_nil]))
   | false =>
    have eFl : flagI f.Gone = 0 := by rw [hq6]; rfl
    obtain ⟨H4, eH4⟩ : ∃ H : List Int, H = [f.Kind, f.Version, f.Day, 0] := ⟨_, rfl⟩
    have hH4 : H4.length = 4 := by rw [eH4]; rfl
    refine CW.region ?_
    refine LW.p (PEv.fieldAddr (off := 4) Tryz.underlying35 rfl rfl Tryz.sizeOf4 rfl (.tmp rfl)) rfl rfl rfl ?_
    refine LW.p (PEv.fa (PEv.load Tryz.isAgg4 (.tmp rfl) (hB1.celln rfl)) (hq6)) rfl rfl rfl ?_
    refine LW.nil (KW.then ?_)
    refine CW.cond_false (.tmp rfl) ?_
    refine CW.skip (KW.then (CW.seq (CW.seq (CW.region ?_))))
    refine LW.p (PEv.fieldAddr (off := 0) Tryz.underlying35 rfl rfl Tryz.sizeOf3 rfl (.tmp rfl)) rfl rfl rfl ?_
    refine LW.p (PEv.load Tryz.isAgg3 (.tmp rfl) (hB1.celln rfl)) rfl rfl rfl ?_
    refine LW.p (PEv.fieldAddr (off := 2) Tryz.underlying35 rfl rfl Tryz.sizeOf3 rfl (.tmp rfl)) rfl rfl rfl ?_
    refine LW.p (PEv.load Tryz.isAgg3 (.tmp rfl) (hB1.celln rfl)) rfl rfl rfl ?_
    refine LW.p (PEv.fieldAddr (off := 3) Tryz.underlying35 rfl rfl Tryz.sizeOf3 rfl (.tmp rfl)) rfl rfl rfl ?_
    refine LW.p (PEv.load Tryz.isAgg3 (.tmp rfl) (hB1.celln rfl)) rfl rfl rfl ?_
    refine LW.p (PEv.move (.tmp rfl)) rfl rfl rfl ?_
    refine LW.r (REv.buildSlice (xs := [f.Kind, f.Version, f.Day, 0]) (enc := eInt) (mk := vi) Tryz.underlying92 Tryz.sizeOf3 Tryz.zeroValue3 rfl (by decide) (fun _ => rfl) (fun _ => rfl) (.cons (.tmp rfl) (.cons (.tmp rfl) (.cons (.tmp rfl) (.cons (.tmp rfl) .nil)))) rfl) rfl rfl rfl rfl ?_
    rintro _ w8 ⟨B26, cB26, rfl, NB26, yB26, xB26⟩
    have eB26 := NB26.at_
    have zB26 := NB26.size
    replace hW := hW.up NB26.up
    replace hB1 := hB1.up NB26.up
    have hB26 := NB26.blk
    have hE26 := xB26
    refine LW.p (PEv.lenS Tryz.underlying92 (.tmp rfl)) rfl rfl rfl ?_
    refine LW.p (PEv.move (.const _)) rfl rfl rfl ?_
    refine LW.nil (KW.then (CW.block ?_))
    refine CW.loopB (σ := Nat) (fun s w => (s ≤ 4) ∧ (Up w0 w) ∧ (Blk w B1 f.cells 35) ∧ (Els w (some ⟨B26, 0, none⟩) 1 eInt H4)) (fun s => [(28, .eq (vi (s : Int))), (5, .eq (.string ⟨(encIs (H4.take s)).toArray⟩))]) ([(1, .eq _), (2, .eq _), (3, .eq _), (26, .eq _), (27, .eq _)]) (fun s => 4 - s) 0 ?_ ⟨rfl, rfl, rfl, rfl, rfl, rfl, rfl, trivial⟩ ?_
    ·exact ⟨Nat.zero_le _, hW, hB1, by rw [eH4]; exact hE26⟩
    ·rintro k w9 ⟨hk, hW, hB1, hE26⟩
     refine CW.seq (CW.region ?_)
     refine LW.p (PEv.lss (.tmp rfl) (.tmp rfl)) rfl rfl rfl ?_
     refine LW.nil (KW.then (CW.seq ?_))
     refine CW.cond (.tmp rfl) (fun h29 => ?_) (fun h29 => ?_)
     ·first | replace h29 := of_decide_eq_true h29 | replace h29 := of_decide_eq_false h29 | skip
      skip
      refine CW.skip (KW.then (CW.seq (CW.block (CW.seq ?_))))
      have hk4 : k < 4 := by have := h29; simp at this; omega
      obtain ⟨x, hx⟩ := getElem?_of_lt (xs := H4) (i := k) (by omega)
      obtain ⟨Bx, ox, ax, hcx⟩ := hE26 k x hx
      refine CW.region ?_
      refine LW.p (PEv.indexAddr' Tryz.underlying92 Tryz.sizeOf3 (.tmp rfl) (.tmp rfl) (by show k < 4; omega) ax) rfl rfl rfl ?_
      refine LW.p (PEv.load Tryz.isAgg3 (.tmp rfl) (hcx.nth (j := 0) rfl)) rfl rfl rfl ?_
      refine LW.p (PEv.assign (.tmp rfl)) rfl rfl rfl (LW.nil (KW.then (CW.seq (CW.region (LW.p (PEv.move (.tmp rfl)) rfl rfl rfl ?_)))))
      refine LW.c (enter_call0 (.cons (.tmp rfl) .nil) (Tryz.en71)) rfl rfl rfl rfl (rPutInt_any x _) ?_
      rintro _ w10 ⟨rfl, uw10⟩
      have zw10 := uw10.size
      replace hW := hW.up uw10
      replace hB1 := hB1.up uw10
      replace hE26 := hE26.up uw10
      refine LW.p (PEv.move (.tmp rfl)) rfl rfl rfl (LW.p (PEv.extract (.tmp rfl) rfl) rfl rfl rfl (LW.p (PEv.extract (.tmp rfl) rfl) rfl rfl rfl (LW.p (PEv.assign (.tmp rfl)) rfl rfl rfl (LW.p (PEv.assign (.tmp rfl)) rfl rfl rfl (LW.nil (KW.then ?_))))))
      have hH4t := List.length_take_le k H4
      refine CW.region (LW.p (PEv.move (.tmp rfl)) rfl rfl rfl (LW.p (PEv.move (.tmp rfl)) rfl rfl rfl ?_))
      refine LW.p (PEv.val (v' := .string ⟨(encIs (H4.take (k + 1))).toArray⟩) (PEv.addStr (.tmp rfl) (.tmp rfl) (by rw [enc_size, enc_size]; have := encI_len x; have := encIs_len (H4.take k); omega)) (by rw [bytes_app2, encIs_take hx])) rfl rfl rfl ?_
      refine LW.p (PEv.assign (.tmp rfl)) rfl rfl rfl (LW.nil (KW.inBlock (KW.then (CW.region ?_))))
      refine LW.p (PEv.inc (.tmp rfl) (by omega)) rfl rfl rfl ?_
      refine LW.p (PEv.move (.tmp rfl)) rfl rfl rfl (LW.nil (KW.round ?_))
      exact ⟨k + 1, ⟨by omega, hW, hB1, hE26⟩, ⟨rfl, rfl, rfl, rfl, rfl, rfl, rfl, trivial⟩, by first | omega | (dsimp only; omega)⟩
     ·first | replace h29 := of_decide_eq_true h29 | replace h29 := of_decide_eq_false h29 | skip
      refine CW.exit (KW.then_exit (KW.then_exit (KW.block_hit (KW.then (CW.seq ?_)))))
      have hk4 : k = 4 := by have := h29; simp at this; omega
      subst hk4
      refine CW.free 7 [.eq (.string ⟨(encIs H4).toArray⟩), .eq (.agg f.cells), .eq (.pointer (some ⟨B1, 0, none⟩)), .eq (vi f.Kind), .pred fun v W => Sl W v 1 eInt (fldR f.Kind), .eq (.string ⟨(encIs ((fldR f.Kind).map (getN f))).toArray⟩), .eq (.string ⟨(encIs (encL f)).toArray⟩)] [47] (by kernel_rfl) rfl (by kernel_rfl) (by kernel_rfl) (by kernel_rfl) (by kernel_rfl) (by kernel_rfl) (by kernel_rfl) (by kernel_rfl) ⟨PhU.eq _, PhU.eq _, PhU.eq _, PhU.eq _, PhU.pred fun _ _ _ h u => Sl.up h u, PhU.eq _, PhU.eq _, trivial⟩ ?_ ?_
      ·intro W hU0
       have hU := (Up.drew w9).trans hU0
       refine allL.cons ⟨rfl, TU.p (PEv.val (v' := .string ⟨(encIs H4).toArray⟩) (PEv.move (.tmp rfl)) (by rw [List.take_of_length_le (by omega)])) rfl⟩ ?_
       refine allL.cons ⟨rfl, TU.p (PEv.loadA Tryz.isAgg35 Tryz.sizeOf35 rfl (.tmp rfl) ((hB1.up hU).agg)) rfl⟩ ?_
       refine allL.cons ⟨rfl, TU.p (PEv.fieldAddr (off := 0) Tryz.underlying35 rfl rfl Tryz.sizeOf3 rfl (.tmp rfl)) rfl⟩ ?_
       refine allL.cons ⟨rfl, TU.p (PEv.load Tryz.isAgg3 (.tmp rfl) ((hB1.up hU).celln rfl)) rfl⟩ ?_
       refine allL.cons ⟨rfl, TU.c (enter_call0 (.cons (.tmp rfl) .nil) (Tryz.en106)) (rFields_any f.Kind W) (fun v W' h => let ⟨ad, cp, e, hE, u⟩ := h; ⟨u, ad, cp, e, hE⟩)⟩ ?_
       refine allL.cons ⟨rfl, TU.open (d := 45) rfl fun v hv => by obtain ⟨ad, cp, rfl, hE⟩ := hv; exact TU.c (enter_call0 (.cons (.tmp rfl) (.cons (.tmp rfl) .nil)) (Tryz.en72)) (rput_any ad cp f (fldR f.Kind) W hE (fldR_lt f.Kind) (by have := fldR_len f.Kind; omega)) (fun v W' h => ⟨h.2, h.1⟩)⟩ ?_
       refine allL.cons ⟨rfl, TU.p (PEv.val (v' := .string ⟨(encIs (encL f)).toArray⟩) (PEv.addStr (.tmp rfl) (.tmp rfl) (by rw [enc_size, enc_size]; have := encIs_len H4; have := encIs_len ((fldR f.Kind).map (getN f)); rw [List.length_map] at this; have := fldR_len f.Kind; omega)) (by rw [bytes_app2]; rw [vals_fld (valid_kind hq2), ← encIs_app, eH4]; unfold encL; rw [eFl])) rfl⟩ ?_
       exact allL.nil
      ·intro w11 g hU0 hg
       have hU := (Up.drew w9).trans hU0
       have zw11 := hU.size
       replace hW := hW.up hU
       replace hB1 := hB1.up hU
       replace hE26 := hE26.up hU
       have h47 : g 47 = .string ⟨(encIs (encL f)).toArray⟩ := hg 6 _ 47 (by decide) rfl rfl
       change LW _ _ _ _ _ _ _ _ ((47, .eq (g 47)) :: _) _
       rw [h47]
       refine LW.p (PEv.assign (.tmp rfl)) rfl rfl rfl (LW.nil (KW.then (CW.seq (CW.seq (CW.region ?_)))))
       refine LW.p (PEv.fieldAddr (off := 0) Tryz.underlying35 rfl rfl Tryz.sizeOf3 rfl (.tmp rfl)) rfl rfl rfl ?_
       refine LW.p (PEv.load Tryz.isAgg3 (.tmp rfl) (hB1.celln rfl)) rfl rfl rfl ?_
       refine LW.p (PEv.eql (.tmp rfl) (.const _)) rfl rfl rfl ?_
       refine LW.nil (KW.then ?_)
       refine CW.cond (.tmp rfl) (fun h50 => ?_) (fun h50 => ?_)
       ·first | replace h50 := of_decide_eq_true h50 | replace h50 := of_decide_eq_false h50 | skip
        have ht : textOf f.Kind = true := by unfold textOf; exact decide_eq_true h50
        refine CW.seq (CW.region ?_)
        refine LW.p (PEv.fieldAddr (off := 18) Tryz.underlying35 rfl rfl Tryz.sizeOf9 rfl (.tmp rfl)) rfl rfl rfl ?_
        refine LW.p (PEv.load Tryz.isAgg9 (.tmp rfl) (hB1.celln rfl)) rfl rfl rfl ?_
        refine LW.c (enter_call0 (.cons (.tmp rfl) .nil) (Tryz.en110)) rfl rfl rfl rfl (rPutString_any f.Text _ (by have := valid_text hq2; omega)) ?_
        rintro _ w12 ⟨rfl, uw12⟩
        have zw12 := uw12.size
        replace hW := hW.up uw12
        replace hB1 := hB1.up uw12
        replace hE26 := hE26.up uw12
        refine LW.p (PEv.move (.tmp rfl)) rfl rfl rfl (LW.p (PEv.extract (.tmp rfl) rfl) rfl rfl rfl (LW.p (PEv.extract (.tmp rfl) rfl) rfl rfl rfl (LW.p (PEv.assign (.tmp rfl)) rfl rfl rfl (LW.p (PEv.assign (.tmp rfl)) rfl rfl rfl (LW.nil (KW.then (CW.region (LW.p (PEv.move (.tmp rfl)) rfl rfl rfl (LW.p (PEv.move (.tmp rfl)) rfl rfl rfl ?_)))))))))
        refine LW.p (PEv.addStr (.tmp rfl) (.tmp rfl) (by rw [enc_size, enc_size]; have := encLen f; have := encT_len f.Text.data.toList; rw [ba_size] at this; have := valid_text hq2; omega)) rfl rfl rfl ?_
        refine LW.p (PEv.assign (.tmp rfl)) rfl rfl rfl (LW.nil (KW.then (CW.seq (CW.region (LW.p (PEv.move (.tmp rfl)) rfl rfl rfl (LW.p (PEv.assign (.tmp rfl)) rfl rfl rfl (LW.p (PEv.assign (.const _)) rfl rfl rfl (LW.nil (KW.then (CW.ret ?_))))))))))
        refine KW.ret2 rfl rfl rfl ⟨_, rfl, ?_⟩
        refine ⟨?_, hW⟩
        first | (rw [show codeB f = [] from if_neg (by rw [hq2]; exact Bool.false_ne_true), show codeE f = 150 from if_neg (by rw [hq2]; exact Bool.false_ne_true)]) | (rw [show codeB f = encB f from if_pos hq2, show codeE f = 0 from if_pos hq2]; unfold encB; rw [ht]; first | (rw [bytes_app2]; rfl) | (rw [if_neg Bool.false_ne_true, List.append_nil]))
       ·first | replace h50 := of_decide_eq_true h50 | replace h50 := of_decide_eq_false h50 | skip
        have ht : textOf f.Kind = false := by unfold textOf; exact decide_eq_false h50
        refine CW.skip (KW.then (CW.seq (CW.region (LW.p (PEv.move (.tmp rfl)) rfl rfl rfl (LW.p (PEv.assign (.tmp rfl)) rfl rfl rfl (LW.p (PEv.assign (.const _)) rfl rfl rfl (LW.nil (KW.then (CW.ret ?_)))))))))
        refine KW.ret2 rfl rfl rfl ⟨_, rfl, ?_⟩
        refine ⟨?_, hW⟩
        first | (rw [show codeB f = [] from if_neg (by rw [hq2]; exact Bool.false_ne_true), show codeE f = 150 from if_neg (by rw [hq2]; exact Bool.false_ne_true)]) | (rw [show codeB f = encB f from if_pos hq2, show codeE f = 0 from if_pos hq2]; unfold encB; rw [ht]; first | (rw [bytes_app2]; rfl) | (rw [if_neg Bool.false_ne_true, List.append_nil]))
  | false =>
   refine CW.region (LW.p (PEv.move (.tmp rfl)) rfl rfl rfl ?_)
   refine LW.p (PEv.tr (PEv.not (.tmp rfl)) (rfl)) rfl rfl rfl ?_
   refine LW.nil (KW.then ?_)
   refine CW.cond_true (.tmp rfl) ?_
   refine CW.seq (CW.region (LW.p (PEv.assign (.const _)) rfl rfl rfl (LW.p (PEv.assign (.const _)) rfl rfl rfl (LW.nil (KW.then (CW.ret (KW.then_ret ?_)))))))
   refine KW.ret2 rfl rfl rfl ⟨_, rfl, ?_⟩
   refine ⟨?_, hW⟩
   first | (rw [show codeB f = [] from if_neg (by rw [hq2]; exact Bool.false_ne_true), show codeE f = 150 from if_neg (by rw [hq2]; exact Bool.false_ne_true)]) | (rw [show codeB f = encB f from if_pos hq2, show codeE f = 0 from if_pos hq2]; unfold encB; rw [ht]; first | (rw [bytes_app2]; rfl) | (rw [if_neg Bool.false_ne_true, List.append_nil]))

theorem rPrevails_any (a b : Fact) (w : World) : Ret Tryz.prog 32 #[.agg a.cells, .agg b.cells] w fun r w' => r = .bool (prevB a b) ∧ Up w w' := by
  have hW := Up.refl w
  obtain ⟨w0, rfl⟩ : ∃ w0, w0 = w := ⟨_, rfl⟩
  refine Calls_start (n := 49) (m := 9) Tryz.func32 rfl rfl rfl ?_
  refine CW.seq (CW.region ?_)
  refine LW.r (REv.boxA (.tmp rfl)) rfl rfl rfl rfl ?_
  rintro _ w1 ⟨B2, rfl, NB2⟩
  have eB2 := NB2.at_
  have zB2 := NB2.size
  replace hW := hW.up NB2.up
  have hB2 := NB2.blk
  refine LW.r (REv.boxA (.tmp rfl)) rfl rfl rfl rfl ?_
  rintro _ w2 ⟨B3, rfl, NB3⟩
  have eB3 := NB3.at_
  have zB3 := NB3.size
  replace hW := hW.up NB3.up
  replace hB2 := hB2.up NB3.up
  have hB3 := NB3.blk
  refine LW.p (PEv.assign (.const _)) rfl rfl rfl (LW.nil (KW.then (CW.seq ?_)))
  cases hq1 : validB a with
  | false =>
   refine CW.region ?_
   refine LW.p (PEv.loadA Tryz.isAgg35 Tryz.sizeOf35 rfl (.tmp rfl) (hB2.agg)) rfl rfl rfl ?_
   refine LW.c (enter_call0 (.cons (.tmp rfl) .nil) (Tryz.en74)) rfl rfl rfl rfl (rEncode_any a _) ?_
   rintro _ w3 ⟨rfl, uw3⟩
   have zw3 := uw3.size
   replace hW := hW.up uw3
   replace hB2 := hB2.up uw3
   replace hB3 := hB3.up uw3
   refine LW.p (PEv.move (.tmp rfl)) rfl rfl rfl (LW.p (PEv.extract (.tmp rfl) rfl) rfl rfl rfl (LW.p (PEv.extract (.tmp rfl) rfl) rfl rfl rfl (LW.p (PEv.assign (.tmp rfl)) rfl rfl rfl (LW.p (PEv.assign (.tmp rfl)) rfl rfl rfl (LW.nil (KW.then (CW.seq (CW.region ?_))))))))
   refine LW.p (PEv.loadA Tryz.isAgg35 Tryz.sizeOf35 rfl (.tmp rfl) (hB3.agg)) rfl rfl rfl ?_
   refine LW.c (enter_call0 (.cons (.tmp rfl) .nil) (Tryz.en74)) rfl rfl rfl rfl (rEncode_any b _) ?_
   rintro _ w4 ⟨rfl, uw4⟩
   have zw4 := uw4.size
   replace hW := hW.up uw4
   replace hB2 := hB2.up uw4
   replace hB3 := hB3.up uw4
   refine LW.p (PEv.move (.tmp rfl)) rfl rfl rfl (LW.p (PEv.extract (.tmp rfl) rfl) rfl rfl rfl (LW.p (PEv.extract (.tmp rfl) rfl) rfl rfl rfl (LW.p (PEv.assign (.tmp rfl)) rfl rfl rfl (LW.p (PEv.assign (.tmp rfl)) rfl rfl rfl (LW.nil (KW.then (CW.seq (CW.seq ?_))))))))
   refine CW.draws (by kernel_rfl) (by kernel_rfl) rfl rfl ?_
   refine HW.p (PEv.move (.tmp rfl)) rfl rfl ?_
   refine HW.p (PEv.tr (PEv.neq (.tmp rfl) (.const _)) (by rw [codeE, if_neg (by rw [hq1]; exact Bool.false_ne_true)]; rfl)) rfl rfl ?_
   refine HW.p (PEv.move (.tmp rfl)) rfl rfl ?_
   refine HW.no rfl rfl rfl rfl rfl rfl rfl ?_
   refine HW.no rfl rfl rfl rfl rfl rfl rfl ?_
   refine HW.p (PEv.pick_or (b := false) (.tmp rfl) (fun hp => absurd (show true = false from hp) (by decide))) rfl rfl ?_
   refine HW.p (PEv.move (.tmp rfl)) rfl rfl ?_
   refine HW.no rfl rfl rfl rfl rfl rfl rfl ?_
   refine HW.no rfl rfl rfl rfl rfl rfl rfl ?_
   refine HW.no rfl rfl rfl rfl rfl rfl rfl ?_
   refine HW.no rfl rfl rfl rfl rfl rfl rfl ?_
   refine HW.no rfl rfl rfl rfl rfl rfl rfl ?_
   refine HW.p (PEv.pick_or (b := false) (.tmp rfl) (fun hp => absurd (show true = false from hp) (by decide))) rfl rfl ?_
   refine HW.nil ?_
   intro w5 uw5
   have zw5 := uw5.size
   replace hW := hW.up uw5
   replace hB2 := hB2.up uw5
   replace hB3 := hB3.up uw5
   refine KW.then ?_
   refine CW.cond_true (.tmp rfl) ?_
   refine CW.seq (CW.region (LW.p (PEv.assign (.const _)) rfl rfl rfl (LW.nil (KW.then (CW.ret (KW.then_ret ?_))))))
   refine KW.ret1 rfl rfl ⟨_, rfl, ?_⟩
   refine ⟨congrArg Go.Value.bool ?_, hW⟩
   first | exact prev_inv (by rw [hq1]; rfl) | exact prev_inv (by rw [hq1, hq2]; rfl) | exact (prev_ne hne).symm | exact prevR_val hq1 hq2 heq
  | true =>
   refine CW.region ?_
   refine LW.p (PEv.loadA Tryz.isAgg35 Tryz.sizeOf35 rfl (.tmp rfl) (hB2.agg)) rfl rfl rfl ?_
   refine LW.c (enter_call0 (.cons (.tmp rfl) .nil) (Tryz.en74)) rfl rfl rfl rfl (rEncode_any a _) ?_
   rintro _ w6 ⟨rfl, uw6⟩
   have zw6 := uw6.size
   replace hW := hW.up uw6
   replace hB2 := hB2.up uw6
   replace hB3 := hB3.up uw6
   refine LW.p (PEv.move (.tmp rfl)) rfl rfl rfl (LW.p (PEv.extract (.tmp rfl) rfl) rfl rfl rfl (LW.p (PEv.extract (.tmp rfl) rfl) rfl rfl rfl (LW.p (PEv.assign (.tmp rfl)) rfl rfl rfl (LW.p (PEv.assign (.tmp rfl)) rfl rfl rfl (LW.nil (KW.then (CW.seq ?_)))))))
   cases hq2 : validB b with
   | false =>
    refine CW.region ?_
    refine LW.p (PEv.loadA Tryz.isAgg35 Tryz.sizeOf35 rfl (.tmp rfl) (hB3.agg)) rfl rfl rfl ?_
    refine LW.c (enter_call0 (.cons (.tmp rfl) .nil) (Tryz.en74)) rfl rfl rfl rfl (rEncode_any b _) ?_
    rintro _ w7 ⟨rfl, uw7⟩
    have zw7 := uw7.size
    replace hW := hW.up uw7
    replace hB2 := hB2.up uw7
    replace hB3 := hB3.up uw7
    refine LW.p (PEv.move (.tmp rfl)) rfl rfl rfl (LW.p (PEv.extract (.tmp rfl) rfl) rfl rfl rfl (LW.p (PEv.extract (.tmp rfl) rfl) rfl rfl rfl (LW.p (PEv.assign (.tmp rfl)) rfl rfl rfl (LW.p (PEv.assign (.tmp rfl)) rfl rfl rfl (LW.nil (KW.then (CW.seq (CW.seq ?_))))))))
    refine CW.draws (by kernel_rfl) (by kernel_rfl) rfl rfl ?_
    refine HW.p (PEv.move (.tmp rfl)) rfl rfl ?_
    refine HW.p (PEv.fa (PEv.neq (.tmp rfl) (.const _)) (by rw [codeE, if_pos hq1]; rfl)) rfl rfl ?_
    refine HW.p (PEv.move (.tmp rfl)) rfl rfl ?_
    refine HW.yp rfl rfl rfl rfl rfl (PEv.move (.tmp rfl)) rfl ?_
    refine HW.yp rfl rfl rfl rfl rfl (PEv.tr (PEv.neq (.tmp rfl) (.const _)) (by rw [codeE, if_neg (by rw [hq2]; exact Bool.false_ne_true)]; rfl)) rfl ?_
    refine HW.p (PEv.pick_or (.tmp rfl) (fun hp => (by first | exact .const _ | exact .tmp rfl | exact .cond rfl (by first | assumption | simp_all)))) rfl rfl ?_
    refine HW.p (PEv.move (.tmp rfl)) rfl rfl ?_
    refine HW.no rfl rfl rfl rfl rfl rfl rfl ?_
    refine HW.no rfl rfl rfl rfl rfl rfl rfl ?_
    refine HW.no rfl rfl rfl rfl rfl rfl rfl ?_
    refine HW.no rfl rfl rfl rfl rfl rfl rfl ?_
    refine HW.no rfl rfl rfl rfl rfl rfl rfl ?_
    refine HW.p (PEv.pick_or (b := false) (.tmp rfl) (fun hp => absurd (show true = false from hp) (by decide))) rfl rfl ?_
    refine HW.nil ?_
    intro w8 uw8
    have zw8 := uw8.size
    replace hW := hW.up uw8
    replace hB2 := hB2.up uw8
    replace hB3 := hB3.up uw8
    refine KW.then ?_
    refine CW.cond_true (.tmp rfl) ?_
    refine CW.seq (CW.region (LW.p (PEv.assign (.const _)) rfl rfl rfl (LW.nil (KW.then (CW.ret (KW.then_ret ?_))))))
    refine KW.ret1 rfl rfl ⟨_, rfl, ?_⟩
    refine ⟨congrArg Go.Value.bool ?_, hW⟩
    first | exact prev_inv (by rw [hq1]; rfl) | exact prev_inv (by rw [hq1, hq2]; rfl) | exact (prev_ne hne).symm | exact prevR_val hq1 hq2 heq
   | true =>
    refine CW.region ?_
    refine LW.p (PEv.loadA Tryz.isAgg35 Tryz.sizeOf35 rfl (.tmp rfl) (hB3.agg)) rfl rfl rfl ?_
    refine LW.c (enter_call0 (.cons (.tmp rfl) .nil) (Tryz.en74)) rfl rfl rfl rfl (rEncode_any b _) ?_
    rintro _ w9 ⟨rfl, uw9⟩
    have zw9 := uw9.size
    replace hW := hW.up uw9
    replace hB2 := hB2.up uw9
    replace hB3 := hB3.up uw9
    refine LW.p (PEv.move (.tmp rfl)) rfl rfl rfl (LW.p (PEv.extract (.tmp rfl) rfl) rfl rfl rfl (LW.p (PEv.extract (.tmp rfl) rfl) rfl rfl rfl (LW.p (PEv.assign (.tmp rfl)) rfl rfl rfl (LW.p (PEv.assign (.tmp rfl)) rfl rfl rfl (LW.nil (KW.then (CW.seq (CW.seq ?_))))))))
    refine CW.draws (by kernel_rfl) (by kernel_rfl) rfl rfl ?_
    refine HW.p (PEv.move (.tmp rfl)) rfl rfl ?_
    refine HW.p (PEv.fa (PEv.neq (.tmp rfl) (.const _)) (by rw [codeE, if_pos hq1]; rfl)) rfl rfl ?_
    refine HW.p (PEv.move (.tmp rfl)) rfl rfl ?_
    refine HW.yp rfl rfl rfl rfl rfl (PEv.move (.tmp rfl)) rfl ?_
    refine HW.yp rfl rfl rfl rfl rfl (PEv.fa (PEv.neq (.tmp rfl) (.const _)) (by rw [codeE, if_pos hq2]; rfl)) rfl ?_
    refine HW.p (PEv.pick_or (.tmp rfl) (fun hp => (by first | exact .const _ | exact .tmp rfl | exact .cond rfl (by first | assumption | simp_all)))) rfl rfl ?_
    refine HW.p (PEv.move (.tmp rfl)) rfl rfl ?_
    refine HW.yp rfl rfl rfl rfl rfl (PEv.loadA Tryz.isAgg35 Tryz.sizeOf35 rfl (.tmp rfl) (hB2.agg)) rfl ?_
    refine HW.yc rfl rfl rfl rfl rfl (fun a w _ ha => enter_call0 (.cons (.tmp rfl) .nil) (Tryz.en31) a ha) rfl (fun w hu => rKey_any a w) ?_
    refine HW.yp rfl rfl rfl rfl rfl (PEv.loadA Tryz.isAgg35 Tryz.sizeOf35 rfl (.tmp rfl) (hB3.agg)) rfl ?_
    refine HW.yc rfl rfl rfl rfl rfl (fun a w _ ha => enter_call0 (.cons (.tmp rfl) .nil) (Tryz.en31) a ha) rfl (fun w hu => rKey_any b w) ?_
    refine HW.yp rfl rfl rfl rfl rfl (PEv.neqStr (.tmp rfl) (.tmp rfl)) rfl ?_
    refine HW.p (PEv.pick_or (.tmp rfl) (fun hp => (by first | exact .const _ | exact .tmp rfl | exact .cond rfl (by first | assumption | simp_all)))) rfl rfl ?_
    refine HW.nil ?_
    intro w10 uw10
    have zw10 := uw10.size
    replace hW := hW.up uw10
    replace hB2 := hB2.up uw10
    replace hB3 := hB3.up uw10
    refine KW.then ?_
    refine CW.cond (.tmp rfl) (fun h31 => ?_) (fun h31 => ?_)
    ·first | replace h31 := of_decide_eq_true h31 | replace h31 := of_decide_eq_false h31 | skip
     have hne : keyB a ≠ keyB b := by rw [key_beq] at h31; simpa using h31
     refine CW.seq (CW.region (LW.p (PEv.assign (.const _)) rfl rfl rfl (LW.nil (KW.then (CW.ret (KW.then_ret ?_))))))
     refine KW.ret1 rfl rfl ⟨_, rfl, ?_⟩
     refine ⟨congrArg Go.Value.bool ?_, hW⟩
     first | exact prev_inv (by rw [hq1]; rfl) | exact prev_inv (by rw [hq1, hq2]; rfl) | exact (prev_ne hne).symm | exact prevR_val hq1 hq2 heq
    ·first | replace h31 := of_decide_eq_true h31 | replace h31 := of_decide_eq_false h31 | skip
     have heq : keyB a = keyB b := by rw [key_beq] at h31; simpa using h31
     refine CW.skip (KW.then (CW.seq (CW.region ?_)))
     refine LW.p (PEv.fieldAddr (off := 2) Tryz.underlying35 rfl rfl Tryz.sizeOf3 rfl (.tmp rfl)) rfl rfl rfl ?_
     refine LW.p (PEv.load Tryz.isAgg3 (.tmp rfl) (hB2.celln rfl)) rfl rfl rfl ?_
     refine LW.p (PEv.fieldAddr (off := 2) Tryz.underlying35 rfl rfl Tryz.sizeOf3 rfl (.tmp rfl)) rfl rfl rfl ?_
     refine LW.p (PEv.load Tryz.isAgg3 (.tmp rfl) (hB3.celln rfl)) rfl rfl rfl ?_
     refine LW.p (PEv.gtr (.tmp rfl) (.tmp rfl)) rfl rfl rfl ?_
     refine LW.p (PEv.move (.tmp rfl)) rfl rfl rfl ?_
     refine LW.g rfl rfl rfl rfl rfl rfl rfl (fun hc => PEv.fieldAddr (off := 2) Tryz.underlying35 rfl rfl Tryz.sizeOf3 rfl (.tmp rfl)) ?_
     refine LW.g rfl rfl rfl rfl rfl rfl rfl (fun hc => PEv.load Tryz.isAgg3 (by first | exact .tmp rfl | exact .cond rfl (by first | assumption | simp_all)) (hB2.celln rfl)) ?_
     refine LW.g rfl rfl rfl rfl rfl rfl rfl (fun hc => PEv.fieldAddr (off := 2) Tryz.underlying35 rfl rfl Tryz.sizeOf3 rfl (.tmp rfl)) ?_
     refine LW.g rfl rfl rfl rfl rfl rfl rfl (fun hc => PEv.load Tryz.isAgg3 (by first | exact .tmp rfl | exact .cond rfl (by first | assumption | simp_all)) (hB3.celln rfl)) ?_
     refine LW.g rfl rfl rfl rfl rfl rfl rfl (fun hc => PEv.eql (by first | exact .tmp rfl | exact .cond rfl (by first | assumption | simp_all)) (by first | exact .tmp rfl | exact .cond rfl (by first | assumption | simp_all))) ?_
     refine LW.g rfl rfl rfl rfl rfl rfl rfl (fun hc => PEv.move (by first | exact .tmp rfl | exact .cond rfl (by first | assumption | simp_all))) ?_
     refine LW.gg rfl rfl rfl rfl rfl rfl rfl (fun hc => PEv.move (.tmp rfl)) ?_
     refine LW.gg rfl rfl rfl rfl rfl rfl rfl (fun hc => PEv.move (.tmp rfl)) ?_
     refine LW.gg rfl rfl rfl rfl rfl rfl rfl (fun hc => PEv.gtrStr (by first | exact .tmp rfl | exact .cond rfl (by first | assumption | simp_all)) (by first | exact .tmp rfl | exact .cond rfl (by first | assumption | simp_all))) ?_
     refine LW.g rfl rfl rfl rfl rfl rfl rfl (fun hc => PEv.pick_and (by first | exact .tmp rfl | exact .cond rfl (by first | assumption | simp_all)) (fun hp => (by first | exact .const _ | exact .tmp rfl | exact .cond rfl (by first | assumption | simp_all)))) ?_
     refine LW.p (PEv.pick_or (.tmp rfl) (fun hp => (by first | exact .const _ | exact .tmp rfl | exact .cond rfl (by first | assumption | simp_all)))) rfl rfl rfl ?_
     refine LW.p (PEv.assign (.tmp rfl)) rfl rfl rfl (LW.nil (KW.then (CW.ret ?_)))
     refine KW.ret1 rfl rfl ⟨_, rfl, ?_⟩
     refine ⟨congrArg Go.Value.bool ?_, hW⟩
     first | exact prev_inv (by rw [hq1]; rfl) | exact prev_inv (by rw [hq1, hq2]; rfl) | exact (prev_ne hne).symm | exact prevR_val hq1 hq2 heq

end Go.Proofs.YtdelcaegofkknaaGreat
