import Derived.Test.YtpofdidofjlkhaaKR110
import Derived.DeepKeys4
section
namespace Go.Proofs.Ytpofdidofjlkhaa
open Go.Proofs.Try
open Go.Wx Go.RowKit
theorem laidOut_ : laidOutB Try.prog = true := by kernel_rfl
theorem sitRow : (51 : TypeId) < Try.prog.types.size := of_decide_eq_true kQ
theorem sitKey : Try.prog.keyType 51 = true := by kernel_rfl
theorem sitDeep : 3 ≤ Try.prog.types.size := of_decide_eq_true kQ
theorem cellsS : Try.prog.cellsOf 51 = 4 := by kernel_rfl
theorem cellsW : Try.prog.cellsOf 43 = 3 := by kernel_rfl
theorem cellsI : Try.prog.cellsOf 3 = 1 := by kernel_rfl
theorem cellsB : Try.prog.cellsOf 4 = 1 := by kernel_rfl
theorem inI_wf {i : Int} (h : inI i) : (Lit.int .i64 i).wf = true := by
 obtain ⟨h1, h2⟩ := h
 have e1 : IntKind.i64.min = -9223372036854775808 := by decide
 have e2 : IntKind.i64.max = 9223372036854775807 := by decide
 show (decide (IntKind.i64.min ≤ i) && decide (i ≤ IntKind.i64.max)) = true
 rw [e1, e2, decide_eq_true h1, decide_eq_true h2]
 rfl
theorem sitKeyOf (s : Sit) (h : s.ok) : ∃ l, keyOf Try.prog 51 (sitK.vk s) = some l := by
 obtain ⟨l, r, p, u⟩ := s
 obtain ⟨h1, h2, h3⟩ := h
 have e1 := inI_wf h1
 have e2 := inI_wf h2
 have e3 := inI_wf h3
 obtain ⟨m, hm⟩ : ∃ m, Try.prog.types.size + 1 = m + 4 := ⟨Try.prog.types.size - 3, by have := sitDeep; omega⟩
 unfold keyOf
 simp only [underlying51]
 rw [if_pos (by simp [sitKey, Value.formed, underlying51, cellsS, sitK, Sit.cells]), hm]
 simp [Program.keyLits, underlying51, underlying43, underlying3, underlying4, cellsS, cellsW, cellsI, cellsB, sitK, Sit.cells, Value.cells, e1, e2, e3]
 rw [if_pos (fun i hi => match i, hi with | 0, _ => by simp | 1, _ => by simp | 2, _ => by simp)]
 exact ⟨_, rfl⟩
theorem sitLaw : sitK.Law Try.prog 51 := Mk.KT.Law.of (deep_law_laid laidOut_ (m := 3) oQ sitRow kQ (by rw [underlying51])) sitKeyOf
end Go.Proofs.Ytpofdidofjlkhaa
end
section
namespace Go.Wx
def wdB (a b : Wd) : Bool := (a.l == b.l) && ((a.r == b.r) && ((a.p == b.p) && true))
theorem wdB_eq (a b : Wd) : wdB a b = decide (a = b) := by
 obtain ⟨a1, a2, a3⟩ := a
 obtain ⟨b1, b2, b3⟩ := b
 unfold wdB
 rw [Bool.eq_iff_iff]
 simp
theorem AggAt.sitW {w : World} {B : Nat} {s : Sit} (h : AggAt w B 0 s.cells) : AggAt w B 0 s.w.cells := fun j v hv => h j v (by
 obtain ⟨l, r, p, u⟩ := s
 match j with
 | 0 => exact hv
 | 1 => exact hv
 | 2 => exact hv
 | j + 3 => simp [Sit.w, Wd.cells] at hv)
end Go.Wx
namespace Go.Proofs.Ytpofdidofjlkhaa
open Go.Proofs.Try
open Go.Wx Go.RowKit
theorem busy_any (s : Sit) (w : World) : Ret Try.prog 20 #[.agg s.cells] w fun r w' => r = .bool (decide (s.r > 0)) ∧ Up w w' := by
 have hW := Up.refl w
 refine cS (n := 7) (m := 9) func20 rfl rfl rfl ?_
 refine CW.S ?_
 refine LW.rr (.boxA (.t rfl)) rfl ?_
 rintro _ w1 ⟨B1, rfl, NB1⟩
 have eB1 := NB1.at_
 have zB1 := NB1.size
 replace hW := hW.up NB1.up
 have hB1 := NB1.blk
 refine LW.C (LW.S (CW.region ?_))
 refine LW.pp (.fA 0 underlying51 rfl sizeOf43 rfl) ?_
 refine LW.pp (.fA 1 underlying43 rfl sizeOf3 rfl) ?_
 refine LW.pp (.ld isAgg3 rfl (hB1.celln rfl)) ?_
 refine LW.pp (.gtr (.t rfl) (.const _)) ?_
 refine LW.A rfl (LW.T (CW.ret ?_))
 refine KW.ret1 rfl rfl ⟨_, rfl, ?_⟩
 exact ⟨rfl, hW⟩
theorem open_any (s : Sit) (w : World) : Ret Try.prog 30 #[.agg s.cells] w fun r w' => r = .bool s.u ∧ Up w w' := by
 have hW := Up.refl w
 refine cS (n := 5) (m := 9) func30 rfl rfl rfl ?_
 refine CW.S ?_
 refine LW.rr (.boxA (.t rfl)) rfl ?_
 rintro _ w1 ⟨B1, rfl, NB1⟩
 have eB1 := NB1.at_
 have zB1 := NB1.size
 replace hW := hW.up NB1.up
 have hB1 := NB1.blk
 refine LW.C (LW.S (CW.region ?_))
 refine LW.pp (.fA 3 underlying51 rfl sizeOf4 rfl) ?_
 refine LW.pp (.ld isAgg4 rfl (hB1.celln rfl)) ?_
 refine LW.A rfl (LW.T (CW.ret ?_))
 refine KW.ret1 rfl rfl ⟨_, rfl, ?_⟩
 exact ⟨rfl, hW⟩
theorem as_any (s : Sit) (w : World) : Ret Try.prog 40 #[.agg s.cells] w fun r w' => r = .agg s.cells ∧ Up w w' := by
 obtain ⟨w0, rfl⟩ : ∃ w0, w0 = w := ⟨_, rfl⟩
 have hS := Sep.start no w0
 refine cS (n := 4) (m := 9) func40 rfl rfl rfl ?_
 refine CW.S ?_
 refine LW.rr (.boxA (.t rfl)) rfl ?_
 rintro _ w1 ⟨B1, rfl, NB1⟩
 have eB1 := NB1.at_
 have zB1 := NB1.size
 replace hS := hS.addB NB1
 change Wx.Sep _ _ _ [_] at hS
 refine LW.rr (.allocA zeroValue51) rfl ?_
 rintro _ w2 ⟨B2, rfl, NB2⟩
 have eB2 := NB2.at_
 have zB2 := NB2.size
 replace hS := hS.addB NB2
 change Wx.Sep _ _ _ [_, _] at hS
 refine LW.S (CW.region ?_)
 refine LW.pp (.la isAgg51 sizeOf51 rfl ((hS.blk 0 rfl).agg)) ?_
 refine LW.E (.storeA sizeOf51 rfl (.t rfl) (.t rfl) (Sit.one _) (hS.blk 1 rfl) rfl) ?_
 intro w3 Nw3
 have zw3 := Nw3.size
 replace hS := hS.putB 1 rfl Nw3
 change Wx.Sep _ _ _ [_, _] at hS
 refine LW.T (CW.ret ?_)
 refine KW.retA rfl rfl isAgg51 sizeOf51 rfl ((hS.blk 1 rfl).agg) ⟨_, rfl, ?_⟩
 exact ⟨rfl, hS.upd⟩
theorem rest_any (s : Sit) (l : Int) (w : World) : Ret Try.prog 17 #[.agg s.cells, vi l] w fun r w' => r = .agg (Sit.mk l 0 (-1) s.u).cells ∧ Up w w' := by
 obtain ⟨w0, rfl⟩ : ∃ w0, w0 = w := ⟨_, rfl⟩
 have hS := Sep.start no w0
 refine cS (n := 10) (m := 9) func17 rfl rfl rfl ?_
 refine CW.S ?_
 refine LW.rr (.boxA (.t rfl)) rfl ?_
 rintro _ w1 ⟨B2, rfl, NB2⟩
 have eB2 := NB2.at_
 have zB2 := NB2.size
 replace hS := hS.addB NB2
 change Wx.Sep _ _ _ [_] at hS
 refine LW.rr (.allocA zeroValue51) rfl ?_
 rintro _ w2 ⟨B4, rfl, NB4⟩
 have eB4 := NB4.at_
 have zB4 := NB4.size
 replace hS := hS.addB NB4
 change Wx.Sep _ _ _ [_, _] at hS
 refine LW.S (CW.region (LW.M rfl ?_))
 refine LW.pp (.build (cs := (Wd.mk l 0 (-1)).cells) underlying43 zeroValue43 Try.places43 (.cons (.t rfl) (.cons (.const _) .nil)) rfl) ?_
 refine LW.pp (.fA 3 underlying51 rfl sizeOf4 rfl) ?_
 refine LW.pp (.ld isAgg4 rfl ((hS.blk 0 rfl).celln rfl)) ?_
 refine LW.pp (.build (cs := (Sit.mk l 0 (-1) s.u).cells) underlying51 zeroValue51 Try.places51 (.cons (.t rfl) (.cons (.t rfl) .nil)) rfl) ?_
 refine LW.E (.storeA sizeOf51 rfl (.t rfl) (.t rfl) (Sit.one _) (hS.blk 1 rfl) rfl) ?_
 intro w3 Nw3
 have zw3 := Nw3.size
 replace hS := hS.putB 1 rfl Nw3
 change Wx.Sep _ _ _ [_, _] at hS
 refine LW.T (CW.ret ?_)
 refine KW.retA rfl rfl isAgg51 sizeOf51 rfl ((hS.blk 1 rfl).agg) ⟨_, rfl, ?_⟩
 exact ⟨rfl, hS.upd⟩
end Go.Proofs.Ytpofdidofjlkhaa
end
section
namespace Go.Proofs.Ytpofdidofjlkhaa
open Go.Proofs.Try
open Go.Wx Go.RowKit
set_option maxRecDepth 4000 in
theorem Try.eqWd (a b : Wd) (w : World) : (Op.equalIn 10000 43 (.agg a.cells) (.agg b.cells)).run Try.prog w = .ok (decide (a = b)) w := by
 have hf : Try.prog.underlying 43 = some (.struct (Try.prog.fieldsOf 43)) := by rw [Program.fieldsOf, underlying43]
 rw [run_equalIn_agg w 9999 43 _ _ hf stoodInHeld43, ← wdB_eq]
 have h : (Op.eqFields 9999 a.cells b.cells (Try.prog.fieldsOf 43).toList).run Try.prog w = .ok (wdB a b) w := by
   rw [Program.fieldsOf, underlying43]
   dsimp only
   iterate 3 (refine eqStep cQ isAgg3 rfl rfl (run_equalIn_int w 9998 _ _ _ _ _ underlying3) ?_)
   rfl
 exact h
theorem over_any (s : Sit) (w : World) : Ret Try.prog 41 #[.agg s.cells] w fun r w' => r = .agg ({ s with u := false } : Sit).cells ∧ Up w w' := by
 obtain ⟨w0, rfl⟩ : ∃ w0, w0 = w := ⟨_, rfl⟩
 have hS := Sep.start no w0
 refine cS (n := 6) (m := 9) func41 rfl rfl rfl ?_
 refine CW.S ?_
 refine LW.rr (.boxA (.t rfl)) rfl ?_
 rintro _ w1 ⟨B1, rfl, NB1⟩
 have eB1 := NB1.at_
 have zB1 := NB1.size
 replace hS := hS.addB NB1
 change Wx.Sep _ _ _ [_] at hS
 refine LW.rr (.allocA zeroValue51) rfl ?_
 rintro _ w2 ⟨B2, rfl, NB2⟩
 have eB2 := NB2.at_
 have zB2 := NB2.size
 replace hS := hS.addB NB2
 change Wx.Sep _ _ _ [_, _] at hS
 refine LW.S (CW.region ?_)
 refine LW.pp (.fA 0 underlying51 rfl sizeOf43 rfl) ?_
 refine LW.pp (.la isAgg43 sizeOf43 rfl ((hS.blk 0 rfl).agg.sitW)) ?_
 refine LW.pp (.build (cs := (Sit.mk s.l s.r s.p false).cells) underlying51 zeroValue51 Try.places51 (.cons (.t rfl) (.cons (.const _) .nil)) rfl) ?_
 refine LW.E (.storeA sizeOf51 rfl (.t rfl) (.t rfl) (Sit.one _) (hS.blk 1 rfl) rfl) ?_
 intro w3 Nw3
 have zw3 := Nw3.size
 replace hS := hS.putB 1 rfl Nw3
 change Wx.Sep _ _ _ [_, _] at hS
 refine LW.T (CW.ret ?_)
 refine KW.retA rfl rfl isAgg51 sizeOf51 rfl ((hS.blk 1 rfl).agg) ⟨_, rfl, ?_⟩
 exact ⟨rfl, hS.upd⟩
theorem cmd2_any (s : Sit) (w : World) : Ret Try.prog 22 #[.agg s.cells] w fun r w' => r = .agg ({ s with u := true } : Sit).cells ∧ Up w w' := by
 obtain ⟨w0, rfl⟩ : ∃ w0, w0 = w := ⟨_, rfl⟩
 have hS := Sep.start no w0
 refine cS (n := 6) (m := 9) func22 rfl rfl rfl ?_
 refine CW.S ?_
 refine LW.rr (.boxA (.t rfl)) rfl ?_
 rintro _ w1 ⟨B1, rfl, NB1⟩
 have eB1 := NB1.at_
 have zB1 := NB1.size
 replace hS := hS.addB NB1
 change Wx.Sep _ _ _ [_] at hS
 refine LW.rr (.allocA zeroValue51) rfl ?_
 rintro _ w2 ⟨B2, rfl, NB2⟩
 have eB2 := NB2.at_
 have zB2 := NB2.size
 replace hS := hS.addB NB2
 change Wx.Sep _ _ _ [_, _] at hS
 refine LW.S (CW.region ?_)
 refine LW.pp (.fA 0 underlying51 rfl sizeOf43 rfl) ?_
 refine LW.pp (.la isAgg43 sizeOf43 rfl ((hS.blk 0 rfl).agg.sitW)) ?_
 refine LW.pp (.build (cs := (Sit.mk s.l s.r s.p true).cells) underlying51 zeroValue51 Try.places51 (.cons (.t rfl) (.cons (.const _) .nil)) rfl) ?_
 refine LW.E (.storeA sizeOf51 rfl (.t rfl) (.t rfl) (Sit.one _) (hS.blk 1 rfl) rfl) ?_
 intro w3 Nw3
 have zw3 := Nw3.size
 replace hS := hS.putB 1 rfl Nw3
 change Wx.Sep _ _ _ [_, _] at hS
 refine LW.T (CW.ret ?_)
 refine KW.retA rfl rfl isAgg51 sizeOf51 rfl ((hS.blk 1 rfl).agg) ⟨_, rfl, ?_⟩
 exact ⟨rfl, hS.upd⟩
theorem per2_any (x : Wd) (w : World) (Bn : Nat) (k n : Int) (hR : Blk w Bn #[vi k, vi n] 37) : Ret Try.prog 43 #[.agg x.cells, .pointer (some ⟨Bn, 0, none⟩)] w fun r w' => r = .bool (decide (x.r = n)) ∧ Up w w' := by
 have hW := Up.refl w
 refine cS (n := 9) (m := 9) func43 rfl rfl rfl ?_
 refine CW.S ?_
 refine LW.rr (.boxA (.t rfl)) rfl ?_
 rintro _ w1 ⟨B2, rfl, NB2⟩
 have eB2 := NB2.at_
 have zB2 := NB2.size
 replace hR := hR.up NB2.up
 replace hW := hW.up NB2.up
 have hB2 := NB2.blk
 refine LW.C (LW.S (CW.region ?_))
 refine LW.pp (.fA 1 underlying43 rfl sizeOf3 rfl) ?_
 refine LW.pp (.ld isAgg3 rfl (hB2.celln rfl)) ?_
 refine LW.pp (.fA 1 underlying37 rfl sizeOf3 rfl) ?_
 refine LW.pp (.ld isAgg3 rfl (hR.celln rfl)) ?_
 refine LW.pp (.eql (.t rfl) (.t rfl)) ?_
 refine LW.A rfl (LW.T (CW.ret ?_))
 refine KW.ret1 rfl rfl ⟨_, rfl, ?_⟩
 exact ⟨rfl, hW⟩
theorem per3_any (x : Wd) (w : World) (Bn : Nat) (k n : Int) (hR : Blk w Bn #[vi k, vi n] 37) : Ret Try.prog 44 #[.agg x.cells, .pointer (some ⟨Bn, 0, none⟩)] w fun r w' => r = .bool (!decide (x.l = n) && !decide (x.r = n)) ∧ Up w w' := by
 have hW := Up.refl w
 refine cS (n := 16) (m := 9) func44 rfl rfl rfl ?_
 refine CW.S ?_
 refine LW.rr (.boxA (.t rfl)) rfl ?_
 rintro _ w1 ⟨B2, rfl, NB2⟩
 have eB2 := NB2.at_
 have zB2 := NB2.size
 replace hR := hR.up NB2.up
 replace hW := hW.up NB2.up
 have hB2 := NB2.blk
 refine LW.C (LW.S (CW.region ?_))
 refine LW.pp (.fA 0 underlying43 rfl sizeOf3 rfl) ?_
 refine LW.pp (.ld isAgg3 rfl (hB2.celln rfl)) ?_
 refine LW.pp (.fA 1 underlying37 rfl sizeOf3 rfl) ?_
 refine LW.pp (.ld isAgg3 rfl (hR.celln rfl)) ?_
 refine LW.pp (.neq (.t rfl) (.t rfl)) ?_
 refine LW.M rfl ?_
 refine LW.g rfl rfl rfl rfl rfl rfl rfl (fun hc => PEv.fA 1 underlying43 rfl sizeOf3 rfl) ?_
 refine LW.g rfl rfl rfl rfl rfl rfl rfl (fun hc => PEv.load isAgg3 vQ (hB2.celln rfl)) ?_
 refine LW.g rfl rfl rfl rfl rfl rfl rfl (fun hc => PEv.fA 1 underlying37 rfl sizeOf3 rfl) ?_
 refine LW.g rfl rfl rfl rfl rfl rfl rfl (fun hc => PEv.load isAgg3 vQ (hR.celln rfl)) ?_
 refine LW.g rfl rfl rfl rfl rfl rfl rfl (fun hc => PEv.neq vQ vQ) ?_
 refine LW.pp (.pick_and (.t rfl) (fun hp => (by first | exact .const _ | exact .tmp rfl | exact .cond rfl (by first | assumption | simp_all)))) ?_
 refine LW.A rfl (LW.T (CW.ret ?_))
 refine KW.ret1 rfl rfl ⟨_, rfl, ?_⟩
 exact ⟨rfl, hW⟩
theorem per4_any (x : Wd) (w : World) (Bn : Nat) (k n : Int) (hR : Blk w Bn #[vi k, vi n] 37) : Ret Try.prog 45 #[.agg x.cells, .pointer (some ⟨Bn, 0, none⟩)] w fun r w' => r = .bool (!decide (x.r = n)) ∧ Up w w' := by
 have hW := Up.refl w
 refine cS (n := 9) (m := 9) func45 rfl rfl rfl ?_
 refine CW.S ?_
 refine LW.rr (.boxA (.t rfl)) rfl ?_
 rintro _ w1 ⟨B2, rfl, NB2⟩
 have eB2 := NB2.at_
 have zB2 := NB2.size
 replace hR := hR.up NB2.up
 replace hW := hW.up NB2.up
 have hB2 := NB2.blk
 refine LW.C (LW.S (CW.region ?_))
 refine LW.pp (.fA 1 underlying43 rfl sizeOf3 rfl) ?_
 refine LW.pp (.ld isAgg3 rfl (hB2.celln rfl)) ?_
 refine LW.pp (.fA 1 underlying37 rfl sizeOf3 rfl) ?_
 refine LW.pp (.ld isAgg3 rfl (hR.celln rfl)) ?_
 refine LW.pp (.neq (.t rfl) (.t rfl)) ?_
 refine LW.A rfl (LW.T (CW.ret ?_))
 refine KW.ret1 rfl rfl ⟨_, rfl, ?_⟩
 exact ⟨rfl, hW⟩
theorem per5_any (x : Wd) (w : World) (Bn : Nat) (k n : Int) (hR : Blk w Bn #[vi k, vi n] 37) : Ret Try.prog 46 #[.agg x.cells, .pointer (some ⟨Bn, 0, none⟩)] w fun r w' => r = .bool (decide (x.p = n)) ∧ Up w w' := by
 have hW := Up.refl w
 refine cS (n := 9) (m := 9) func46 rfl rfl rfl ?_
 refine CW.S ?_
 refine LW.rr (.boxA (.t rfl)) rfl ?_
 rintro _ w1 ⟨B2, rfl, NB2⟩
 have eB2 := NB2.at_
 have zB2 := NB2.size
 replace hR := hR.up NB2.up
 replace hW := hW.up NB2.up
 have hB2 := NB2.blk
 refine LW.C (LW.S (CW.region ?_))
 refine LW.pp (.fA 2 underlying43 rfl sizeOf3 rfl) ?_
 refine LW.pp (.ld isAgg3 rfl (hB2.celln rfl)) ?_
 refine LW.pp (.fA 1 underlying37 rfl sizeOf3 rfl) ?_
 refine LW.pp (.ld isAgg3 rfl (hR.celln rfl)) ?_
 refine LW.pp (.eql (.t rfl) (.t rfl)) ?_
 refine LW.A rfl (LW.T (CW.ret ?_))
 refine KW.ret1 rfl rfl ⟨_, rfl, ?_⟩
 exact ⟨rfl, hW⟩
theorem per1_any (x : Wd) (w : World) (Bn : Nat) (k n : Int) (hR : Blk w Bn #[vi k, vi n] 37) : Ret Try.prog 42 #[.agg x.cells, .pointer (some ⟨Bn, 0, none⟩)] w fun r w' => r = .bool (decide (x = Wd.mk n 0 (-1))) ∧ Up w w' := by
 have hW := Up.refl w
 refine cS (n := 9) (m := 9) func42 rfl rfl rfl ?_
 refine CW.S ?_
 refine LW.rr (.boxA (.t rfl)) rfl ?_
 rintro _ w1 ⟨B2, rfl, NB2⟩
 have eB2 := NB2.at_
 have zB2 := NB2.size
 replace hR := hR.up NB2.up
 replace hW := hW.up NB2.up
 have hB2 := NB2.blk
 refine LW.C (LW.S (CW.region ?_))
 refine LW.pp (.la isAgg43 sizeOf43 rfl (hB2.agg)) ?_
 refine LW.pp (.fA 1 underlying37 rfl sizeOf3 rfl) ?_
 refine LW.pp (.ld isAgg3 rfl (hR.celln rfl)) ?_
 refine LW.pp (.build (cs := (Wd.mk n 0 (-1)).cells) underlying43 zeroValue43 Try.places43 (.cons (.t rfl) (.cons (.const _) .nil)) rfl) ?_
 refine LW.pp (.eqlA eqGuardType43 (Try.eqWd _ _) (.t rfl) (.t rfl)) ?_
 refine LW.A rfl (LW.T (CW.ret ?_))
 refine KW.ret1 rfl rfl ⟨_, rfl, ?_⟩
 exact ⟨rfl, hW⟩
end Go.Proofs.Ytpofdidofjlkhaa
end
section
namespace Go.Wx
open Go.Wx.Mk
def unS (s : Sit) : Sit × Value := (s, .agg #[])
def addL (L : List Sit) (s : Sit) : List Sit := if s ∈ L then L else L ++ [s]
theorem unS_keys (L : List Sit) : (L.map unS).map (·.1) = L := by rw [List.map_map]; exact List.map_id _
theorem unS_mem {L : List Sit} {s : Sit} {v : Value} (h : (s, v) ∈ L.map unS) : s ∈ L ∧ v = .agg #[] := by
 obtain ⟨x, hx, e⟩ := List.mem_map.1 h
 cases e
 exact ⟨hx, rfl⟩
theorem mset_unS (L : List Sit) (s : Sit) : Mk.mset (L.map unS) s (.agg #[]) = (addL L s).map unS := by
 unfold Mk.mset addL
 rw [unS_keys]
 split
 · rw [List.map_map]
   refine List.map_congr_left fun x _ => ?_
   show (if x = s then (s, Value.agg #[]) else unS x) = unS x
   split
   · rename_i e; rw [e]; rfl
   rfl
 rw [List.map_append]; rfl
theorem PEv.lookupS {P : Program} {n : Nat} {ds : List Deferred} {l : Env} {w : World} {d : Option Tmp} {ty : TypeId} {ps : String} {af : Array Edge} {g : Option (Nat × Bool)} {T K E : TypeId} {mo x : Operand} {b : Nat} {s : Sit} {L : List Sit} (hT : P.underlying T = some (.map K E)) (hK : sitK.Law P K) (hko : s.ok) (hz : ∀ w, (zeroValue E).run P w = .ok (.agg #[]) w) (hm : Val l mo (.map (some b))) (hx : Val l x (.agg s.cells)) (h : Mk.IMap sitK w b (L.map unS)) :
   PEv P n ds l w ⟨d, .lookup T mo x true, ty, ps, af, g⟩ (.tuple #[.agg #[], .bool (decide (s ∈ L))]) := by
 by_cases hs : s ∈ L
 · rw [decide_eq_true hs]
   exact Mk.PEv.lookupYes (Q := sitK) (ok := true) (v := .agg #[]) hT hK hko hm hx h (List.mem_map.2 ⟨s, hs, rfl⟩)
 rw [decide_eq_false hs]
 exact Mk.PEv.lookupNo (Q := sitK) (ok := true) hT hK hko hz hm hx h (by rw [unS_keys]; exact hs)
end Go.Wx
namespace Go.Proofs.Ytpofdidofjlkhaa
open Go.Proofs.Try
open Go.Wx Go.RowKit
theorem add_any (b : Nat) (L : List Sit) (s : Sit) (w : World) (hs : s.ok) (hM : Mk.IMap sitK w b (L.map unS)) : Ret Try.prog 33 #[.map (some b), .agg s.cells] w fun r w' => r = .bool (!decide (s ∈ L)) ∧ Stp (Mk.aIMap sitK b (L.map unS)) (Mk.aIMap sitK b ((addL L s).map unS)) w w' := by
 obtain ⟨w0, rfl⟩ : ∃ w0, w0 = w := ⟨_, rfl⟩
 have hS : Wx.Sep (Mk.aIMap sitK b (L.map unS)).foot w0 w0 [Mk.aIMap sitK b ((L).map unS)] := Sep.cons (A := Mk.aIMap sitK b ((L).map unS)) hM (fun _ h => h) (Sep.start _ _) (by simp)
 refine cS (n := 18) (m := 9) func33 rfl rfl rfl ?_
 refine CW.S ?_
 refine LW.rr (.boxA (.t rfl)) rfl ?_
 rintro _ w1 ⟨B3, rfl, NB3⟩
 have eB3 := NB3.at_
 have zB3 := NB3.size
 replace hS := hS.addB NB3
 change Wx.Sep _ _ _ [_, _] at hS
 refine LW.C (LW.S (CW.region (LW.M rfl ?_)))
 refine LW.pp (.la isAgg51 sizeOf51 rfl ((hS.blk 1 rfl).agg)) ?_
 refine LW.pp (.lookupS underlying55 sitLaw hs zeroValue53 (.t rfl) (.t rfl) (hS.get 0 rfl)) ?_
 refine LW.M rfl (LW.pp (.extract (.t rfl) rfl) (LW.pp (.extract (.t rfl) rfl) ?_))
 refine LW.rr (.allocA zeroValue53) rfl ?_
 rintro _ w2 ⟨B5, rfl, MB5⟩
 refine LW.E (.storeA sizeOf53 rfl (.t rfl) (.t rfl) eQ MB5.blk rfl) ?_
 intro w3 LB5
 have NB5 := MB5.set LB5
 clear LB5 MB5
 have eB5 := NB5.at_
 have zB5 := NB5.size
 replace hS := hS.addB NB5
 change Wx.Sep _ _ _ [_, _, _] at hS
 refine LW.A rfl (LW.S (CW.region (LW.M rfl ?_)))
 refine LW.pp (.la isAgg51 sizeOf51 rfl ((hS.blk 1 rfl).agg)) ?_
 refine LW.pp (.build (cs := #[]) underlying53 zeroValue53 Try.places53 .nil rfl) ?_
 refine LW.E (Mk.SEv.mapUpdate (Q := sitK) underlying55 sitLaw hs (.t rfl) (.t rfl) (.t rfl) (hS.get 0 rfl)) ?_
 rintro w4 ⟨Mu, Ku, zu⟩
 rw [mset_unS] at Mu
 replace hS := hS.stp 0 rfl (Mk.stp_set Mu Ku)
 change Wx.Sep _ _ _ [_, _, _] at hS
 clear Mu Ku
 refine LW.S (CW.region (LW.M rfl ?_))
 refine LW.pp (.not (.t rfl)) ?_
 refine LW.A rfl (LW.T (CW.ret ?_))
 refine KW.ret1 rfl rfl ⟨_, rfl, ?_⟩
 exact ⟨rfl, hS.fr, hS.get 0 rfl, fun _ h => .inl h⟩
end Go.Proofs.Ytpofdidofjlkhaa
end
section
namespace Go.Wx
theorem has_end {V L : List Sit} {p : Sit → Bool} (h : V.Perm ((L.map unS).map (·.1))) (hn : ∀ k ∈ V, p k = false) : L.any p = false := by
 rw [unS_keys] at h
 refine List.any_eq_false.2 fun x hx => ?_
 rw [hn x (h.symm.subset hx)]
 simp
end Go.Wx
namespace Go.Proofs.Ytpofdidofjlkhaa
open Go.Proofs.Try
open Go.Wx Go.RowKit
theorem has_any (cf : Nat) (lb : Array Go.Value) (p : Sit → Bool) (hen : ∀ args w, (callFunc cf args).run Try.prog w = .ok (.enter cf args) w) (b : Nat) (L : List Sit) (w : World) (hM : Mk.IMap sitK w b (L.map unS)) (hp : ∀ W, Fr (· = b) w W → ∀ s, s ∈ L → Ret Try.prog cf (#[.agg s.cells] ++ lb) W fun r W' => r = .bool (p s) ∧ Up W W') : Ret Try.prog 18 #[.map (some b), .func (.func cf) #[] lb] w fun r w' => r = .bool (L.any p) ∧ Stp (Mk.aIMap sitK b ((L).map unS)) (Mk.aIMap sitK b ((L).map unS)) w w' := by
 obtain ⟨w0, rfl⟩ : ∃ w0, w0 = w := ⟨_, rfl⟩
 have hS : Wx.Sep (Mk.aIMap sitK b ((L).map unS)).foot w0 w0 [Mk.aIMap sitK b ((L).map unS)] := Sep.cons (A := Mk.aIMap sitK b ((L).map unS)) hM (fun _ h => h) (Sep.start _ _) (by simp)
 refine cS (n := 15) (m := 9) func18 rfl rfl rfl ?_
 refine CW.S (LW.C (LW.S (CW.S (LW.M rfl ?_))))
 refine LW.rr (Mk.REv.range (Q := sitK) underlying55 (.t rfl) (hS.get 0 rfl)) rfl ?_
 rintro _ w1 ⟨r7, rfl, hR_, uR, eR, zR⟩
 replace hS := hS.stp 0 rfl (Mk.stp_range hR_ uR eR)
 change Wx.Sep _ _ _ [_] at hS
 clear hR_
 refine LW.T (CW.block ?_)
 refine CW.loopB (σ := List Sit) (fun s w => (s.Nodup ∧ ∀ k ∈ s, k ∈ L) ∧ (∀ k ∈ s, p k = false) ∧ (Wx.Sep (Mk.aIMap sitK b ((L).map unS)).foot w0 w [Mk.aIRng sitK b r7 (L.map unS) s])) (fun s => []) ([(1, .eq _), (7, .eq _)]) (fun s => L.length - s.length) [] ?_ ⟨rfl, rfl, trivial⟩ ?_
 ·exact ⟨⟨List.nodup_nil, fun _ h => (by cases h)⟩, (fun _ h => (by cases h)), hS⟩
 rintro V w2 ⟨hV, hn, hS⟩
 refine CW.S ?_
 refine LW.rr (Mk.REv.next (.t rfl) (hS.get 0 rfl)) rfl ?_
 rintro _ w3 (⟨rfl, rfl, hPm⟩ | ⟨k0, u0, rfl, hNx⟩)
 ·skip
  refine LW.pp (.extract (.t rfl) rfl) (LW.S ?_)
  refine CW.cond_false (.t rfl) ?_
  refine CW.exit (KW.then_exit (KW.then_exit (KW.block_hit (KW.then (CW.S (LW.C (LW.T (CW.ret ?_))))))))
  refine KW.ret1 rfl rfl ⟨_, rfl, ?_⟩
  have hS2 := hS.stp 0 rfl (Mk.stp_rngEnd (hS.get 0 rfl))
  refine ⟨?_, hS2.fr, hS2.get 0 rfl, fun _ h => .inl h⟩
  first | exact congrArg Go.Value.bool (List.any_eq_true.2 ⟨k0, hk0, by simpa using h14⟩).symm | exact congrArg Go.Value.bool (has_end hPm hn).symm
 skip
 have zw3 := hNx.size
 replace hS := hS.stp 0 rfl (Mk.stp_next hNx)
 change Wx.Sep _ _ _ [_] at hS
 obtain ⟨hk0, hu0⟩ := unS_mem hNx.mem
 subst hu0
 have hf0 := hNx.fresh
 have hV2 : (V ++ [k0]).Nodup ∧ ∀ k ∈ V ++ [k0], k ∈ L := ⟨List.nodup_append.2 ⟨hV.1, by simp, fun a ha c hc => by simp at hc; subst hc; exact fun e => hf0 (e ▸ ha)⟩, fun k hk => (List.mem_append.1 hk).elim (hV.2 k) (fun h => by cases List.mem_singleton.1 h; exact hk0)⟩
 have hVl := hV2.1.length_le_of_subset hV2.2
 rw [List.length_append, List.length_singleton] at hVl
 refine LW.pp (.extract (.t rfl) rfl) (LW.S ?_)
 refine CW.cond_true (.t rfl) ?_
 refine CW.skip (KW.then (CW.block (CW.S ?_)))
 refine LW.rr (.entry (.t rfl) hNx.entry) rfl ?_
 rintro _ _ ⟨rfl, rfl⟩
 refine LW.pp (.extract (.t rfl) rfl) ?_
 refine LW.rr (.allocA zeroValue51) rfl ?_
 rintro _ w4 ⟨B5, rfl, MB5⟩
 refine LW.E (.storeA sizeOf51 rfl (.t rfl) (.t rfl) (Sit.one _) MB5.blk rfl) ?_
 intro w5 LB5
 have NB5 := MB5.set LB5
 clear LB5 MB5
 have eB5 := NB5.at_
 have zB5 := NB5.size
 replace hS := hS.addB NB5
 change Wx.Sep _ _ _ [_, _] at hS
 refine LW.S (CW.region (LW.M rfl ?_))
 refine LW.pp (.la isAgg51 sizeOf51 rfl ((hS.blk 1 rfl).agg)) ?_
 refine LW.K (enter_call (.t rfl) (.cons (.t rfl) .nil) (hen)) rfl (hp _ hS.fr k0 hk0) ?_
 rintro _ w6 ⟨rfl, uw6⟩
 have zw6 := uw6.size
 replace hS := hS.up uw6
 refine LW.T ?_
 refine CW.cond (.t rfl) (fun h14 => ?_) (fun h14 => ?_)
 ·replace h14 := dQ h14
  refine CW.S (LW.C (LW.T (CW.ret (KW.block_ret (KW.then_ret (KW.block_ret (KW.then_ret ?_)))))))
  refine KW.ret1 rfl rfl ⟨_, rfl, ?_⟩
  have hS2 := hS.stp 0 rfl (Mk.stp_rngEnd (hS.get 0 rfl))
  refine ⟨?_, hS2.fr, hS2.get 0 rfl, fun _ h => .inl h⟩
  first | exact congrArg Go.Value.bool (List.any_eq_true.2 ⟨k0, hk0, by simpa using h14⟩).symm | exact congrArg Go.Value.bool (has_end hPm hn).symm
 replace h14 := dQ h14
 refine CW.skip (KW.inBlock (KW.round ?_))
 exact ⟨V ++ [k0], ⟨hV2, fun k hk => (List.mem_append.1 hk).elim (hn k) (fun h => by rw [List.mem_singleton.1 h]; simpa using h14), hS.take 1⟩, ⟨rfl, rfl, trivial⟩, by rw [List.length_append, List.length_singleton]; omega⟩
end Go.Proofs.Ytpofdidofjlkhaa
end
section
namespace Go.Wx
def belC (b : Nat) (job tool : Int) : Array Value := #[.map (some b), vi job, vi tool]
theorem Mk.SEv.insert {κ : Type} [DecidableEq κ] {Q : Mk.KT κ} {P : Program} {n : Nat} {ds : List Deferred} {l : Env} {w : World} {ty : TypeId} {ps : String} {af : Array Edge} {g : Option (Nat × Bool)} {T K E : TypeId} {m x y : Operand} {b : Nat} {k : κ} {v : Value} {kv : List (κ × Value)} (hT : P.underlying T = some (.map K E)) (hK : Q.Law P K) (hko : Q.ok k) (hm : Val l m (.map (some b))) (hx : Val l x (Q.vk k)) (hy : Val l y v) (h : Mk.IMap Q w b kv) :
   SEv P n ds l w ⟨none, .insert T m x y, ty, ps, af, g⟩ (fun w' => Mk.IMap Q w' b (Mk.mset kv k v) ∧ Sto b w w' ∧ w'.heap.size = w.heap.size) := fun a ha =>
 Mk.SEv.mapUpdate (ty := ty) (ps := ps) (af := af) (g := g) hT hK hko hm hx hy h a ha
end Go.Wx
namespace Go.Proofs.Ytpofdidofjlkhaa
open Go.Proofs.Try
open Go.Wx Go.RowKit
theorem New_any (l : Int) (w : World) (h : 0 ≤ l ∧ l ≤ 1000000) : Ret Try.prog 5 #[vi l] w fun r w' => ∃ B b, r = .tuple #[.pointer (some ⟨B, 0, none⟩), vi 0] ∧ Blk w' B (belC b 0 0) 59 ∧ Mk.IMap sitK w' b ([Sit.mk l 0 (-1) false].map unS) ∧ w.heap.size ≤ B ∧ w.heap.size ≤ b ∧ b < B ∧ Up w w' := by
 obtain ⟨w0, rfl⟩ : ∃ w0, w0 = w := ⟨_, rfl⟩
 have hS := Sep.start no w0
 refine cS (n := 18) (m := 9) func5 rfl rfl rfl ?_
 refine CW.S (LW.C (LW.C (LW.S (CW.S (LW.M rfl ?_)))))
 refine LW.pp (.fa (PEv.lss (.t rfl) (.const _)) (decide_eq_false oQ)) ?_
 refine LW.M rfl ?_
 refine LW.Y ?_
 refine LW.M rfl ?_
 refine LW.Y ?_
 refine LW.pp (.fa (PEv.gtr (.t rfl) (.const _)) (decide_eq_false oQ)) ?_
 refine LW.pp (.pick_or (.t rfl) (fun hp => (by first | exact .const _ | exact .tmp rfl | exact .cond rfl (by first | assumption | simp_all)))) ?_
 refine LW.T ?_
 refine CW.cond_false (.t rfl) ?_
 refine CW.skip (KW.then (CW.S ?_))
 refine LW.rr (Mk.REv.makeMap (Q := sitK)) rfl ?_
 rintro _ w1 ⟨M10, rfl, hMM10, uw1, eM10, zM10⟩
 replace hS := hS.add uw1 (A' := Mk.aIMap sitK M10 (([] : List Sit).map unS)) hMM10 (fun i (h : i = M10) => by omega)
 change Wx.Sep _ _ _ [_] at hS
 refine LW.pp (.build (cs := (Sit.mk 0 0 0 false).cells) underlying51 zeroValue51 Try.places51 .nil rfl) ?_
 refine LW.M rfl ?_
 refine LW.K (eC (.u rfl rfl) (en17)) rfl (rest_any (Sit.mk 0 0 0 false) l _) ?_
 rintro _ w2 ⟨rfl, uw2⟩
 have zw2 := uw2.size
 replace hS := hS.up uw2
 refine LW.pp (.build (cs := #[]) underlying53 zeroValue53 Try.places53 .nil rfl) ?_
 refine LW.E (Mk.SEv.insert (Q := sitK) underlying55 sitLaw (show Sit.ok (Sit.mk l 0 (-1) false) from ⟨by unfold inI; dsimp only; omega, by simp [inI], by simp [inI]⟩) (.t rfl) (.t rfl) (.t rfl) (hS.get 0 rfl)) ?_
 rintro w3 ⟨Mu, Ku, zu⟩
 rw [mset_unS] at Mu
 replace hS := hS.stp 0 rfl (Mk.stp_set Mu Ku)
 change Wx.Sep _ _ _ [_] at hS
 clear Mu Ku
 refine LW.M rfl ?_
 refine LW.pp (.build (cs := (belC M10 0 0)) underlying59 zeroValue59 Try.places59 (.cons (.t rfl) .nil) rfl) ?_
 refine LW.rr (.boxA (.t rfl)) rfl ?_
 rintro _ w4 ⟨B17, rfl, NB17⟩
 have eB17 := NB17.at_
 have zB17 := NB17.size
 replace hS := hS.addB NB17
 change Wx.Sep _ _ _ [_, _] at hS
 refine LW.A rfl (LW.C (LW.T (CW.ret ?_)))
 refine KW.ret2 rfl rfl rfl ⟨_, rfl, ?_⟩
 exact ⟨_, _, rfl, hS.blk 1 rfl, hS.get 0 rfl, by omega, by omega, by omega, hS.upd⟩
end Go.Proofs.Ytpofdidofjlkhaa
end
section
namespace Go.Wx
def imL (f : Sit → Sit) (V : List Sit) : List Sit := V.foldl (fun K s => addL K (f s)) []
theorem imL_snoc (f : Sit → Sit) (V : List Sit) (s : Sit) : imL f (V ++ [s]) = addL (imL f V) (f s) := by unfold imL; rw [List.foldl_append]; rfl
theorem addL_mem (L : List Sit) (s v : Sit) : v ∈ addL L s ↔ v ∈ L ∨ v = s := by
 unfold addL
 split
 · rename_i h
   exact ⟨.inl, fun e => e.elim id fun e => e ▸ h⟩
 rw [List.mem_append, List.mem_singleton]
theorem imL_mem (f : Sit → Sit) (V : List Sit) : ∀ v, v ∈ imL f V ↔ ∃ s ∈ V, f s = v := by
 refine snoc_ind (p := fun V => ∀ v, v ∈ imL f V ↔ ∃ s ∈ V, f s = v) (fun v => by simp [imL]) (fun V s ih v => ?_) V
 rw [imL_snoc, addL_mem, ih]
 constructor
 · rintro (⟨x, hx, e⟩ | rfl)
   · exact ⟨x, List.mem_append_left _ hx, e⟩
   exact ⟨s, List.mem_append_right _ (List.mem_singleton.2 rfl), rfl⟩
 rintro ⟨x, hx, e⟩
 rcases List.mem_append.1 hx with hx | hx
 · exact .inl ⟨x, hx, e⟩
 rw [List.mem_singleton.1 hx] at e; exact .inr e.symm
theorem set_end {V L : List Sit} (h : V.Perm ((L.map unS).map (·.1))) (f : Sit → Sit) (v : Sit) : v ∈ imL f V ↔ ∃ s ∈ L, f s = v := by
 rw [unS_keys] at h
 rw [imL_mem]
 exact ⟨fun ⟨s, hs, e⟩ => ⟨s, h.subset hs, e⟩, fun ⟨s, hs, e⟩ => ⟨s, h.symm.subset hs, e⟩⟩
end Go.Wx
namespace Go.Proofs.Ytpofdidofjlkhaa
open Go.Proofs.Try
open Go.Wx Go.RowKit
theorem set_any (cf : Nat) (lb : Array Go.Value) (p : Sit → Sit) (hen : ∀ args w, (callFunc cf args).run Try.prog w = .ok (.enter cf args) w) (D b b0 : Nat) (job tool : Int) (L : List Sit) (w : World) (hne : b ≠ D) (hD : Blk w D (belC b0 job tool) 59) (hM : Mk.IMap sitK w b (L.map unS)) (hp : ∀ W, Fr (fun i => i = D ∨ i = b) w W → ∀ s, s ∈ L → Ret Try.prog cf (#[.agg s.cells] ++ lb) W fun r W' => r = .agg (p s).cells ∧ Up W W') (hok : ∀ s, s ∈ L → (p s).ok) : Ret Try.prog 21 #[.pointer (some ⟨D, 0, none⟩), .map (some b), .func (.func cf) #[] lb] w fun r w' => ∃ (b' : Nat) (L' : List Sit), r = .tuple #[] ∧ Blk w' D (belC b' job tool) 59 ∧ Mk.IMap sitK w' b' (L'.map unS) ∧ (∀ v, v ∈ L' ↔ ∃ s ∈ L, p s = v) ∧ w.heap.size ≤ b' ∧ Fr (fun i => i = D ∨ i = b) w w' := by
 obtain ⟨w0, rfl⟩ : ∃ w0, w0 = w := ⟨_, rfl⟩
 have hS1 : Wx.Sep (fun i => i = D ∨ i = b) w0 w0 [Mk.aIMap sitK b ((L).map unS)] := Sep.cons (A := Mk.aIMap sitK b ((L).map unS)) hM (fun i h => .inr h) (Sep.start _ _) (by simp)
 have hS : Wx.Sep (fun i => i = D ∨ i = b) w0 w0 [aBlk D (belC b0 job tool) 59, Mk.aIMap sitK b ((L).map unS)] := Sep.cons (A := aBlk D (belC b0 job tool) 59) hD (fun i h => .inl h) hS1 (by rintro A hA i h1 h2; rw [List.mem_singleton.1 hA] at h2; exact hne (h2.symm.trans h1))
 refine cS (n := 25) (m := 9) func21 rfl rfl rfl ?_
 refine CW.S (LW.M rfl ?_)
 refine LW.rr (Mk.REv.makeMap (Q := sitK)) rfl ?_
 rintro _ w1 ⟨M8, rfl, hMM8, uw1, eM8, zM8⟩
 replace hS := hS.add uw1 (A' := Mk.aIMap sitK M8 (([] : List Sit).map unS)) hMM8 (fun i (h : i = M8) => by omega)
 change Wx.Sep _ _ _ [_, _, _] at hS
 refine LW.pp (.nilCheck (.t rfl)) ?_
 refine LW.pp (.fA 0 underlying59 rfl sizeOf55 rfl) ?_
 refine LW.E (.store sizeOf55 (.t rfl) (.t rfl) rfl (hS.blk 0 rfl) (Nat.le_of_ble_eq_true rfl)) ?_
 intro w2 Nw2
 have zw2 := Nw2.size
 replace hS := hS.putB 0 rfl (show Set_ _ w2 _ (belC M8 job tool) _ from Nw2)
 change Wx.Sep _ _ _ [_, _, _] at hS
 refine LW.S (CW.region (LW.M rfl ?_))
 refine LW.rr (Mk.REv.range (Q := sitK) underlying55 (.t rfl) (hS.get 1 rfl)) rfl ?_
 rintro _ w3 ⟨r12, rfl, hR_, uR, eR, zR⟩
 replace hS := hS.stp 1 rfl (Mk.stp_range hR_ uR eR)
 change Wx.Sep _ _ _ [_, _, _] at hS
 clear hR_
 refine LW.T (CW.block ?_)
 refine CW.loopB (σ := List Sit) (fun s w => (s.Nodup ∧ ∀ k ∈ s, k ∈ L) ∧ (Wx.Sep (fun i => i = D ∨ i = b) w0 w [aBlk D (belC M8 job tool) 59, Mk.aIRng sitK b r12 (L.map unS) s, Mk.aIMap sitK M8 ((imL p s).map unS)])) (fun s => []) ([(0, .eq _), (2, .eq _), (12, .eq _)]) (fun s => L.length - s.length) [] ?_ ⟨rfl, rfl, rfl, trivial⟩ ?_
 ·exact ⟨⟨List.nodup_nil, fun _ h => (by cases h)⟩, hS⟩
 rintro V w4 ⟨hV, hS⟩
 refine CW.S ?_
 refine LW.rr (Mk.REv.next (.t rfl) (hS.get 1 rfl)) rfl ?_
 rintro _ w5 (⟨rfl, rfl, hPm⟩ | ⟨k0, u0, rfl, hNx⟩)
 ·skip
  refine LW.pp (.extract (.t rfl) rfl) (LW.S ?_)
  refine CW.cond_false (.t rfl) ?_
  refine CW.exit (KW.then_exit (KW.then_exit (KW.block_hit ?_)))
  refine KW.end0 rfl ⟨_, rfl, ?_⟩
  exact ⟨M8, imL p V, rfl, hS.blk 0 rfl, hS.get 2 rfl, set_end hPm p, by omega, hS.fr⟩
 skip
 have zw5 := hNx.size
 replace hS := hS.stp 1 rfl (Mk.stp_next hNx)
 change Wx.Sep _ _ _ [_, _, _] at hS
 obtain ⟨hk0, hu0⟩ := unS_mem hNx.mem
 subst hu0
 have hf0 := hNx.fresh
 have hV2 : (V ++ [k0]).Nodup ∧ ∀ k ∈ V ++ [k0], k ∈ L := ⟨List.nodup_append.2 ⟨hV.1, by simp, fun a ha c hc => by simp at hc; subst hc; exact fun e => hf0 (e ▸ ha)⟩, fun k hk => (List.mem_append.1 hk).elim (hV.2 k) (fun h => by cases List.mem_singleton.1 h; exact hk0)⟩
 have hVl := hV2.1.length_le_of_subset hV2.2
 rw [List.length_append, List.length_singleton] at hVl
 refine LW.pp (.extract (.t rfl) rfl) (LW.S ?_)
 refine CW.cond_true (.t rfl) ?_
 refine CW.skip (KW.then (CW.block (CW.S ?_)))
 refine LW.rr (.entry (.t rfl) hNx.entry) rfl ?_
 rintro _ _ ⟨rfl, rfl⟩
 refine LW.pp (.extract (.t rfl) rfl) ?_
 refine LW.rr (.allocA zeroValue51) rfl ?_
 rintro _ w6 ⟨B6, rfl, MB6⟩
 refine LW.E (.storeA sizeOf51 rfl (.t rfl) (.t rfl) (Sit.one _) MB6.blk rfl) ?_
 intro w7 LB6
 have NB6 := MB6.set LB6
 clear LB6 MB6
 have eB6 := NB6.at_
 have zB6 := NB6.size
 replace hS := hS.addB NB6
 change Wx.Sep _ _ _ [_, _, _, _] at hS
 refine LW.T ?_
 refine CW.draws_then 7 kQ kQ kQ kQ kQ rfl rfl ?_
 refine HW.pp (.move (.t rfl)) ?_
 refine HW.pp (.nilCheck (.t rfl)) ?_
 refine HW.pp (.fA 0 underlying59 rfl sizeOf55 rfl) ?_
 refine HW.pp (.ld isAgg55 rfl ((hS.blk 0 rfl).celln rfl)) ?_
 refine HW.pp (.move (.t rfl)) ?_
 refine HW.pp (.la isAgg51 sizeOf51 rfl ((hS.blk 3 rfl).agg)) ?_
 refine HW.c (fun a w _ ha => enter_call (.t rfl) (.cons (.t rfl) .nil) (hen) a ha) rfl rfl (fun w hu => hp _ (hS.fr.trans (hu.fr _)) k0 hk0) ?_
 refine HW.nil ?_
 intro w8 uw8
 have zw8 := uw8.size
 replace hS := hS.up uw8
 refine LW.K (eC (.u rfl rfl) (en33)) rfl (add_any M8 (imL p V) (p k0) _ (hok k0 hk0) (hS.get 2 rfl)) ?_
 rintro _ w9 ⟨rfl, uw9⟩
 have zw9 := uw9.fr.size
 replace hS := hS.stp 2 rfl uw9
 change Wx.Sep _ _ _ [_, _, _, _] at hS
 refine LW.nil (KW.inBlock (KW.round ?_))
 exact ⟨V ++ [k0], ⟨hV2, by rw [imL_snoc]; exact hS.take 3⟩, ⟨rfl, rfl, rfl, trivial⟩, by rw [List.length_append, List.length_singleton]; omega⟩
end Go.Proofs.Ytpofdidofjlkhaa
end
section
namespace Go.Wx
open Go.RowKit
theorem Blk.frz {B : Nat} {cs : Array Value} {T : TypeId} {Z : Nat → Prop} {w w' : World} (h : Blk w B cs T) (k : Fr Z w w') (hn : ¬ Z B) : Blk w' B cs T := (k.block B h.lt hn).trans h
end Go.Wx
end
section
namespace Go.Wx
open Go.RowKit
def footL (As : List Asr) : Nat → Prop := fun i => ∃ A ∈ As, A.foot i
section
variable {S0 : Nat → Prop} {w0 w w' : World} {As Bs Zs As' : List Asr} {A : Asr}
theorem footL_app {i : Nat} : footL (As ++ Bs) i ↔ footL As i ∨ footL Bs i := by
 constructor
 · rintro ⟨A, hA, hi⟩
   exact (List.mem_append.1 hA).imp (fun h => ⟨A, h, hi⟩) (fun h => ⟨A, h, hi⟩)
 rintro (⟨A, hA, hi⟩ | ⟨A, hA, hi⟩)
 · exact ⟨A, List.mem_append_left _ hA, hi⟩
 exact ⟨A, List.mem_append_right _ hA, hi⟩
theorem Sep.self (h : Sep S0 w0 w As) : Sep (footL As) w w As := ⟨Fr.refl _ _, fun A hA => ⟨(h.each A hA).1, fun _ hi => .inl ⟨A, hA, hi⟩⟩, h.apart⟩
theorem Sep.right (h : Sep S0 w0 w (Zs ++ As)) : Sep S0 w0 w As := h.sub (List.sublist_append_right _ _)
theorem Sep.left (h : Sep S0 w0 w (Zs ++ As)) : Sep S0 w0 w Zs := h.sub (List.sublist_append_left _ _)
theorem Sep.dis (h : Sep S0 w0 w (Zs ++ As)) {i : Nat} (hz : footL Zs i) : ¬ footL As i := by
 obtain ⟨Z, hZ, h1⟩ := hz
 rintro ⟨A, hA, h2⟩
 exact (List.pairwise_append.1 h.apart).2.2 Z hZ A hA i h1 h2
theorem Sep.ltL (h : Sep S0 w0 w As) {i : Nat} (hi : footL As i) : i < w.heap.size := by
 obtain ⟨A, hA, h1⟩ := hi
 exact Asr.lt _ w (h.each A hA).1 i h1
theorem Sep.frame (h : Sep S0 w0 w (Zs ++ As)) (k : Sep (footL As) w w' As') : Sep S0 w0 w' (Zs ++ As') := by
 have hsz := h.size
 have hF : ∀ i, footL As i → S0 i ∨ w0.heap.size ≤ i := fun i ⟨A, hA, hi⟩ => (h.each A (List.mem_append_right _ hA)).2 i hi
 refine ⟨h.fr.next k.fr hF, fun B hB => ?_, ?_⟩
 · rcases List.mem_append.1 hB with hB | hB
   · have h1 := h.each B (List.mem_append_left _ hB)
     exact ⟨B.keep w w' h1.1 (fun i hi hlt => k.fr.block i hlt (h.dis ⟨B, hB, hi⟩)) k.size, h1.2⟩
   have h1 := k.each B hB
   exact ⟨h1.1, fun i hi => (h1.2 i hi).elim (hF i) (fun h2 => .inr oQ)⟩
 refine List.pairwise_append.2 ⟨h.left.apart, k.apart, fun Z hZ B hB i h1 h2 => ?_⟩
 rcases (k.each B hB).2 i h2 with h3 | h3
 · exact h.dis ⟨Z, hZ, h1⟩ h3
 have := Asr.lt _ w (h.each Z (List.mem_append_left _ hZ)).1 i h1
 omega
theorem Sep.join (h : Sep S0 w0 w As) (k : Sep no w w' Bs) : Sep S0 w0 w' (As ++ Bs) := by
 have hsz := h.size
 have h1 := h.up k.upd
 refine ⟨h1.fr, fun B hB => ?_, List.pairwise_append.2 ⟨h.apart, k.apart, fun A hA B hB i h2 h3 => ?_⟩⟩
 · rcases List.mem_append.1 hB with hB | hB
   · exact h1.each B hB
   have h2 := k.each B hB
   exact ⟨h2.1, fun i hi => (h2.2 i hi).elim (fun e => e.elim) (fun e => .inr oQ)⟩
 have := Asr.lt _ w (h.each A hA).1 i h2
 exact ((k.each B hB).2 i h3).elim (fun e => e) (fun e => by omega)
theorem Sep.perm (h : Sep S0 w0 w As) (p : As.Perm Bs) : Sep S0 w0 w Bs := ⟨h.fr, fun A hA => h.each A (p.mem_iff.2 hA), (List.Perm.pairwise_iff (R := fun A B : Asr => ∀ i, A.foot i → ¬ B.foot i) (fun hab i hb ha => hab i ha hb) p).1 h.apart⟩
theorem Sep.rot {Cs : List Asr} (h : Sep S0 w0 w (A :: (Bs ++ Cs))) : Sep S0 w0 w (A :: (Cs ++ Bs)) := h.perm (List.Perm.cons A List.perm_append_comm)
theorem Sep.stpAdd {A' B : Asr} (h : Sep S0 w0 w As) (k : Nat) (hk : As[k]? = some A) (s : Stp A A' w w') (hB : B.holds w') (new : ∀ i, B.foot i → w.heap.size ≤ i) (ap : ∀ i, A'.foot i → ¬ B.foot i) : Sep S0 w0 w' (As.set k A' ++ [B]) := by
 have h1 := h.stp k hk s
 have hsz := h.size
 refine ⟨h1.fr, fun C hC => ?_, List.pairwise_append.2 ⟨h1.apart, List.pairwise_singleton _ _, fun C hC E hE i h2 h3 => ?_⟩⟩
 · rcases List.mem_append.1 hC with hC | hC
   · exact h1.each C hC
   rw [List.mem_singleton.1 hC]
   exact ⟨hB, fun i hi => .inr (by have := new i hi; omega)⟩
 rw [List.mem_singleton.1 hE] at h3
 rcases List.mem_or_eq_of_mem_set hC with hC | hC
 · have := Asr.lt C w (h.each C hC).1 i h2
   have := new i h3
   omega
 rw [hC] at h2
 exact ap i h2 h3
def KoOk (bq : Nat) (w : World) (As : List Asr) : Prop := ∀ i, footL As i → i < bq ∨ ∃ o : Obj, w.heap[i]? = some o ∧ o.isCells = true
theorem KoOk.app {bq : Nat} : KoOk bq w (As ++ Bs) ↔ KoOk bq w As ∧ KoOk bq w Bs :=
 ⟨fun h => ⟨fun i hi => h i (footL_app.2 (.inl hi)), fun i hi => h i (footL_app.2 (.inr hi))⟩, fun ⟨h, k⟩ i hi => (footL_app.1 hi).elim (h i) (k i)⟩
theorem KoOk.low {bq : Nat} (h : ∀ i, footL As i → i < bq) : KoOk bq w As := fun i hi => .inl (h i hi)
theorem KoOk.nil (bq : Nat) (w : World) : KoOk bq w [] := fun _ ⟨_, h, _⟩ => by cases h
theorem KoOk.cons {bq : Nat} (h : ∀ i, A.foot i → i < bq ∨ ∃ o : Obj, w.heap[i]? = some o ∧ o.isCells = true) (k : KoOk bq w As) : KoOk bq w (A :: As) := fun i ⟨B, hB, hi⟩ => by
 rcases List.mem_cons.1 hB with rfl | hB
 · exact h i hi
 exact k i ⟨B, hB, hi⟩
theorem kokB {bq B : Nat} {cs : Array Value} {T : TypeId} (h : Blk w B cs T) : ∀ i, (aBlk B cs T).foot i → i < bq ∨ ∃ o : Obj, w.heap[i]? = some o ∧ o.isCells = true := fun i (e : i = B) => by subst e; exact .inr ⟨_, h, rfl⟩
theorem kokO {α : Type} {bq : Nat} {e : TypeId} {k : Nat} {enc : α → Array Value} {v : Value} {xs : List α} (h : OwnS w 0 e k enc v xs) : ∀ i, (aOwn e k enc v xs).foot i → i < bq ∨ ∃ o : Obj, w.heap[i]? = some o ∧ o.isCells = true := fun i hi => by
 obtain ⟨_, ⟨rfl, _⟩ | ⟨g, cap, cur, rfl, _, hg, _⟩⟩ := h
 · cases hi
 cases hi
 exact .inr ⟨_, hg, rfl⟩
theorem KoOk.ko {bq : Nat} (h : KoOk bq w As) (k : Ko bq w w') : KoOk bq w' As := fun i hi => by
 rcases h i hi with h1 | ⟨o, h1, h2⟩
 · exact .inl h1
 exact .inr ⟨o, k.same i o h1 (.inr h2), h2⟩
theorem Sep.ko {bq : Nat} (h : Sep S0 w0 w As) (hc : KoOk bq w As) (k : Ko bq w w') (hb : w0.heap.size ≤ bq) : Sep S0 w0 w' As :=
 ⟨h.fr.ko k hb, fun A hA => ⟨A.keep w w' (h.each A hA).1 (fun i hi hlt => by
   obtain ⟨o, ho⟩ : ∃ o, w.heap[i]? = some o := ⟨_, Array.getElem?_eq_getElem hlt⟩
   rw [ho]
   refine k.same i o ho ?_
   rcases hc i ⟨A, hA, hi⟩ with h1 | ⟨o', h1, h2⟩
   · exact .inl h1
   rw [ho] at h1; cases h1; exact .inr h2) k.size, (h.each A hA).2⟩, h.apart⟩
end
theorem OwnS.short {α : Type} {enc : α → Array Value} {b k : Nat} {e : TypeId} {w : World} {ad : Option Addr} {m cp j : Nat} {xs : List α} (hk : ∀ x, (enc x).size = k) (h : OwnS w b e k enc (.slice ad m cp) xs) (hj : j ≤ xs.length) : OwnS w b e k enc (.slice ad j cp) (xs.take j) := by
 have hfl : ∀ x, (enc x).toList.length = k := fun x => by simp [hk]
 have hl : (xs.take j).length = j := by rw [List.length_take]; omega
 refine ⟨flat_length _ k hfl _, ?_⟩
 obtain ⟨_, ⟨e1, hn⟩ | ⟨g, cap, cur, e1, hb, hg, hcap, hcm, hcs, htk⟩⟩ := h
 · cases e1
   exact .inl ⟨by rw [show j = 0 by omega], by omega⟩
 cases e1
 refine .inr ⟨g, cp, cur, by rw [hl], hb, hg, by omega, hcm, hcs, ?_⟩
 rw [hl]
 have h1 : (xs.take j).flatMap (fun x => (enc x).toList) = (xs.flatMap fun x => (enc x).toList).take (j * k) := by
   have h2 : xs.flatMap (fun x => (enc x).toList) = (xs.take j).flatMap (fun x => (enc x).toList) ++ (xs.drop j).flatMap (fun x => (enc x).toList) := by rw [← List.flatMap_append, List.take_append_drop]
   have h3 := flat_length (fun x => (enc x).toList) k hfl (xs.take j)
   rw [hl] at h3
   exact (congrArg (List.take (j * k)) h2).trans ((List.take_append_of_le_length oQ).trans (List.take_of_length_le oQ)) |>.symm
 rw [h1, ← htk, List.take_take]
 congr 1
 exact (Nat.min_eq_left (Nat.mul_le_mul_right k hj)).symm
theorem stp_short {α : Type} {enc : α → Array Value} {k : Nat} {e : TypeId} {w : World} {ad : Option Addr} {m cp j : Nat} {xs : List α} (hk : ∀ x, (enc x).size = k) (h : OwnS w 0 e k enc (.slice ad m cp) xs) (hj : j ≤ xs.length) : Stp (aOwn e k enc (.slice ad m cp) xs) (aOwn e k enc (.slice ad j cp) (xs.take j)) w w := ⟨Fr.refl _ _, OwnS.short hk h hj, fun i hi => .inl (by cases ad <;> exact hi)⟩
theorem OwnS.elsS {α : Type} {enc : α → Array Value} {b k : Nat} {e : TypeId} {w : World} {ad : Option Addr} {m cp : Nat} {xs : List α} (h : OwnS w b e k enc (.slice ad m cp) xs) (hk : ∀ x, (enc x).size = k) : Els w ad k enc xs := by
 obtain ⟨ad', cp', e', hE⟩ := h.sl hk
 cases e'
 exact hE
theorem OwnS.cap {α : Type} {enc : α → Array Value} {b k : Nat} {e : TypeId} {w : World} {ad : Option Addr} {m cp : Nat} {xs : List α} (h : OwnS w b e k enc (.slice ad m cp) xs) : m ≤ cp ∧ m = xs.length := by
 obtain ⟨_, ⟨e1, hn⟩ | ⟨g, cap, cur, e1, hb, hg, hcap, hcm, hcs, htk⟩⟩ := h
 · cases e1; exact ⟨Nat.le_refl _, hn.symm⟩
 cases e1; exact ⟨hcap, rfl⟩
theorem NewSl.own {α : Type} {enc : α → Array Value} {k : Nat} {e : TypeId} {w w' : World} {v : Value} {xs : List α} (h : NewSl w e k enc xs v w') (hk : ∀ x, (enc x).size = k) (hk0 : 0 < k) (hm : xs.length ≤ maxLen) : Up w w' ∧ ∃ B, v = .slice (some ⟨B, 0, none⟩) xs.length xs.length ∧ B = w.heap.size ∧ OwnS w' 0 e k enc (.slice (some ⟨B, 0, none⟩) xs.length xs.length) xs := by
 obtain ⟨B, cs, rfl, N, hc, hE⟩ := h
 have hfl : ∀ x, (enc x).toList.length = k := fun x => by simp [hk]
 have hl := flat_length (fun x => (enc x).toList) k hfl xs
 refine ⟨N.up, B, rfl, N.at_, hl, .inr ⟨B, xs.length, cs, rfl, Nat.zero_le _, N.blk, Nat.le_refl _, hm, hc, ?_⟩⟩
 rw [List.take_of_length_le (by rw [Array.length_toList, hc]; exact Nat.le_refl _)]
 refine List.ext_getElem (by rw [Array.length_toList, hc, hl]) fun j h1 h2 => ?_
 obtain ⟨x, hx1, hx2⟩ := flat_at (fun x => (enc x).toList) k hk0 hfl xs j _ (List.getElem?_eq_getElem h2)
 obtain ⟨B', o, e', hcell⟩ := hE _ x hx1
 cases e'
 have h3 := hcell (j % k) _ (by simpa using hx2)
 rw [show 0 + j / k * k + j % k = j by rw [Nat.zero_add, Nat.mul_comm]; exact Nat.div_add_mod j k] at h3
 have hb := N.blk
 unfold Blk at hb
 have h1' : j < cs.size := by simpa using h1
 simp [World.cell?, hb, h1'] at h3
 simpa using h3
theorem PEv.as {P : Program} {n : Nat} {ds : List Deferred} {l : Env} {w : World} {o : Oper} {v v' : Value} (h : PEv P n ds l w o v) (e : v = v') : PEv P n ds l w o v' := e ▸ h
def roundSep (T : World → Prop) (Tx : Code → World → Prop) : Exit → Go.Act → World → Prop
 | .normal, _, w => T w
 | .ret, _, w => Tx .ret w
 | .exit id, _, w => Tx (.exit id) w
 | .goto t, _, w => Tx (.goto t) w
 | _, _, _ => False
def aMark (D : Nat) : Asr := ⟨(· = D), fun w => Ob w D (.deferred (some [])), fun _ _ h k _ => (k D rfl (lt_of_block h)).trans h, fun _ h _ e => by subst e; exact lt_of_block h⟩
def aMarks (Ds : List Nat) : Asr := ⟨(· ∈ Ds), fun w => Ds.Nodup ∧ ∀ D ∈ Ds, Ob w D (.deferred (some [])), fun _ _ h k _ => ⟨h.1, fun D hD => (k D hD (lt_of_block (h.2 D hD))).trans (h.2 D hD)⟩, fun _ h _ e => lt_of_block (h.2 _ e)⟩
theorem Sep.marks0 {S0 : Nat → Prop} {w0 w : World} {As : List Asr} (h : Sep S0 w0 w As) : Sep S0 w0 w (As ++ [aMarks []]) := h.add (Up.refl _) ⟨List.nodup_nil, fun _ h => by cases h⟩ (fun _ h => by cases h)
theorem markSet {S0 : Nat → Prop} {w0 w : World} {As Bs : List Asr} {Ds : List Nat} {D : Nat} (h : Sep S0 w0 w ((aMarks Ds :: As) ++ (Bs ++ [aMark D]))) : Sep S0 w0 w (aMarks (D :: Ds) :: (As ++ Bs)) := by
 have h1 := h.get 0 rfl
 have hD : Ob w D (.deferred (some [])) := (h.each (aMark D) (by simp)).1
 have hn : D ∉ Ds := fun hm => by
   have h2 := (List.pairwise_cons.1 h.apart).1 (aMark D) (by simp) D hm
   exact h2 rfl
 have hs : Sep S0 w0 w ((aMarks Ds :: As) ++ Bs) := h.sub (List.Sublist.append_left (List.sublist_append_left _ _) _)
 refine ⟨h.fr, fun A hA => ?_, ?_⟩
 · rcases List.mem_cons.1 hA with rfl | hA
   · refine ⟨⟨List.nodup_cons.2 ⟨hn, h1.1⟩, fun E hE => ?_⟩, fun i hi => ?_⟩
     · rcases List.mem_cons.1 hE with rfl | hE
       · exact hD
       exact h1.2 E hE
     rcases List.mem_cons.1 hi with rfl | hi
     · exact (h.each (aMark i) (by simp)).2 i rfl
     exact (h.each (aMarks Ds) (by simp)).2 i hi
   exact hs.each A (List.mem_cons_of_mem _ hA)
 have h2 := hs.apart
 rw [List.cons_append, List.pairwise_cons] at h2
 refine List.pairwise_cons.2 ⟨fun A hA i hi hi2 => ?_, h2.2⟩
 rcases List.mem_cons.1 hi with rfl | hi
 · have h3 := (List.pairwise_append.1 h.apart)
   rcases List.mem_append.1 hA with hA | hA
   · exact h3.2.2 A (List.mem_cons_of_mem _ hA) (aMark i) (by simp) i hi2 rfl
   exact (List.pairwise_append.1 h3.2.1).2.2 A hA (aMark i) (by simp) i hi2 rfl
 exact h2.1 A hA i hi hi2
def aNil : Asr := ⟨fun _ => False, fun _ => True, fun _ _ h _ _ => h, fun _ _ _ h => h.elim⟩
def markDs (Ds : List Nat) : List Deferred := Ds.map fun D => { target := .collected D, args := #[] }
section
variable {R : Option Nat} {m : Nat} {P : Program} {n : Nat} {ds : List Deferred} {Q : Exit → Go.Act → World → Prop} {l : Env} {w : World}
theorem KW.unmarks {fn : Func} {RR : Ending → World → Prop} (hl : noPred l = true) : ∀ (Ds : List Nat) (w : World), Ds.Nodup → (∀ D ∈ Ds, Ob w D (.deferred (some []))) → (∀ w', Fr (· ∈ Ds) w w' → KW n [] (bodyPost P fn RR .ret) l w') → KW n (markDs Ds) (bodyPostM (FR none) m P fn RR .ret) l w := by
 intro Ds w hn hk h a ha
 show LeavesInM (FR none) m P fn a.tmps RR a.defers .returning w
 rw [ha.defers]
 have key : ∀ (Ds : List Nat) (w : World), Ds.Nodup → (∀ D ∈ Ds, Ob w D (.deferred (some []))) → (∀ w', Fr (· ∈ Ds) w w' → KW n [] (bodyPost P fn RR .ret) l w') → LeavesInM (FR none) m P fn a.tmps RR (markDs Ds) .returning w := by
   intro Ds
   induction Ds with
   | nil =>
     intro w _ _ h
     obtain ⟨_, v, h2, h3⟩ := h w (Fr.refl _ _) { tmps := a.tmps, defers := [] } ⟨rfl, ha.size, (ha.world hl _).val⟩
     exact leavesM_nil h2 h3
   | cons D Ds ih =>
     intro w hn hk h
     have hD := hk D List.mem_cons_self
     obtain ⟨hn1, hn2⟩ := List.nodup_cons.1 hn
     refine leavesM_mark hD (ih _ hn2 (fun E hE => ?_) (fun w' hf => h w' ?_))
     · exact (World.putObj_heap_other (fun e : E = D => hn1 (e ▸ hE))).trans (hk E (List.mem_cons_of_mem _ hE))
     refine ⟨hf.os, hf.tape, hf.output, Nat.le_trans (by simp) hf.size, fun i hi hs => ?_⟩
     have h1 : i ≠ D := fun e => hs (by rw [e]; exact List.mem_cons_self)
     exact (hf.block i (by simpa using hi) (fun e => hs (List.mem_cons_of_mem _ e))).trans (World.putObj_heap_other h1)
 exact key Ds w hn hk h
theorem CW.loopD {σ : Type} {c : Code} (I : σ → World → Prop) (vals : σ → Env) (D : σ → List Deferred) (μ : σ → Nat) (s0 : σ) (h0 : I s0 w) (hd : ds = D s0) (hl : Sub l (vals s0))
   (round : ∀ s w, I s w → CW R m P n (D s) c (Exit.then (fun a' w' => ∃ s', I s' w' ∧ Ag n (D s') (vals s') a' w' ∧ μ s' < μ s) Q) (vals s) w) : CW R m P n ds (.loop c) Q l w := by
 subst hd
 intro a ha
 refine wpIn_mono (Q := fun e a w => Q e a w) ?_ (fun _ _ _ h => h)
 intro b k cs hro hb hr
 have key : ∀ j s a w, μ s = j → I s w → Ag n (D s) (vals s) a w →
     ∃ e a' w', Q e a' w' ∧ ArrivesIn (Machine.fenced P (FR R)) P (lone (b.atR a (.code c :: .inLoop c :: k)) cs w) b k cs e a' w' := by
   intro j
   induction j using Nat.strongRecOn with
   | _ j ih =>
     intro s a w hn hI hA
     obtain ⟨e, a₁, w₁, hq, harr⟩ := round s w hI a hA b (.inLoop c :: k) cs hro hb hr
     cases e with
     | normal =>
       obtain ⟨s', hI', hA', hlt⟩ := hq
       obtain ⟨e₂, a₂, w₂, hq₂, harr₂⟩ := ih (μ s') (hn ▸ hlt) s' a₁ w₁ rfl hI' hA'
       exact ⟨e₂, a₂, w₂, hq₂, .of_steps (StepsIn.trans harr (.one (fenced_calm hb hr rfl) stepR_inLoop)) harr₂⟩
     | exit id => exact ⟨_, a₁, w₁, hq, .pass (x := .inLoop c) rfl (fun _ _ => .inl (by simp)) harr⟩
     | goto l => exact ⟨_, a₁, w₁, hq, .pass (x := .inLoop c) rfl (fun _ _ => .inl (by simp)) harr⟩
     | ret => exact ⟨_, a₁, w₁, hq, .pass (x := .inLoop c) rfl (fun _ _ => .inl (by simp)) harr⟩
     | panic ch => exact ⟨_, a₁, w₁, hq, .pass (x := .inLoop c) rfl (fun _ _ => .inl (by simp)) harr⟩
     | outgrown => exact ⟨_, a₁, w₁, hq, .pass (x := .inLoop c) rfl (fun _ _ => .inl (by simp)) harr⟩
 obtain ⟨e, a', w', hq, harr⟩ := key _ s0 a w rfl h0 (ha.sub hl)
 exact ⟨e, a', w', hq, .of_steps (.one (fenced_calm hb hr rfl) stepR_loop) harr⟩
theorem CW.loopBD {σ : Type} {c : Code} (I : σ → World → Prop) (vals : σ → Env) (base : Env) (D : σ → List Deferred) (μ : σ → Nat) (s0 : σ) (h0 : I s0 w) (hd : ds = D s0) (hl : Sub l (vals s0 ++ base))
   (round : ∀ s w, I s w → CW R m P n (D s) c (Exit.then (fun a' w' => ∃ s', I s' w' ∧ Ag n (D s') (vals s' ++ base) a' w' ∧ μ s' < μ s) Q) (vals s ++ base) w) : CW R m P n ds (.loop c) Q l w :=
 CW.loopD I (fun s => vals s ++ base) D μ s0 h0 hd hl round
theorem KW.roundD {σ : Type} {I : σ → World → Prop} {vals : σ → Env} {D : σ → List Deferred} {μ : σ → Nat} {s : σ} (h : ∃ s', I s' w ∧ ds = D s' ∧ Sub l (vals s') ∧ μ s' < μ s) :
 KW n ds (Exit.then (fun a' w' => ∃ s', I s' w' ∧ Ag n (D s') (vals s') a' w' ∧ μ s' < μ s) Q .normal) l w := fun _ ha => let ⟨s', h1, h2, h3, h4⟩ := h; ⟨s', h1, h2 ▸ ha.sub h3, h4⟩
theorem CW.rangeSep {α σ : Type} {g : Operand} {ps : Array Tmp} {assign body : Code} {gf : Nat} {lb : Array Value} {encs : α → Array Value} {Zs : List Asr} {S0 : Nat → Prop} {w0 : World} (As : σ → List Asr) (J : List α → σ → Prop) (Jx : Code → List α → σ → Prop) (Bx : α → Nat → List Asr) (env : α → Nat → Env) (s0 : σ) {S Sp : List α → Prop} {N : Nat}
   (hx : Val l g (.func (.func gf) #[] lb)) (en : ∀ args w, (callFunc gf args).run P w = .ok (.enter gf args) w) (hit : IterS P gf lb encs (fun i => (S0 i ∨ w0.heap.size ≤ i) ∧ ¬ footL Zs i) (fun i => (S0 i ∨ w0.heap.size ≤ i) ∧ i < w.heap.size ∧ ¬ footL Zs i) S Sp N w) (hps : ∀ x, (encs x).size = ps.size) (hl : noPred l = true) (henv : ∀ x b, noPred (env x b) = true)
   (hS : Sep S0 w0 w (Zs ++ As s0)) (hJ : J [] s0)
   (hassign : ∀ (lp : Nat) (x : α) (W : World) (a : Go.Act), Ag n ds l a W → assign.wpIn (FR (some lp)) 8 P (Exit.then (fun a' W' => ∃ b, Sep no W W' (Bx x b) ∧ KoOk 0 W' (Bx x b) ∧ Ag n [] (env x b) a' W') (fun _ _ _ => False)) { tmps := (ps.zip (encs x)).foldl (fun t (p, v) => t.setIfInBounds p v) a.tmps, defers := [] } W)
   (hbody : ∀ (lp : Nat) (pre : List α) (x : α) (s : σ) (b : Nat) (W : World), J pre s → pre.length < N → w.heap.size ≤ W.heap.size → Sep S0 w0 W (Zs ++ (As s ++ Bx x b)) → Sep (footL (As s ++ Bx x b)) W W (As s ++ Bx x b) →
     CW (some lp) 8 P n [] body (roundSep (fun W' => ∃ s' Rest, J (pre ++ [x]) s' ∧ Sep (footL (As s ++ Bx x b)) W W' (As s' ++ Rest) ∧ KoOk w.heap.size W' (As s')) (fun c W' => ∃ s' Rest, Jx c (pre ++ [x]) s' ∧ Sep (footL (As s ++ Bx x b)) W W' (As s' ++ Rest) ∧ KoOk w.heap.size W' (As s'))) (env x b) W)
   (hdone : ∀ (D : Nat) (ys : List α) (s : σ) (W : World), w.heap.size ≤ D → S ys → J ys s → w.heap.size ≤ W.heap.size → Sep S0 w0 W (Zs ++ (As s ++ [aMark D])) → KW n ({ target := .collected D, args := #[] } :: ds) (Q .normal) l W)
   (hstop : ∀ (D : Nat) (c : Code) (pre : List α) (s : σ) (W : World), w.heap.size ≤ D → Sp pre → Jx c pre s → w.heap.size ≤ W.heap.size → Sep S0 w0 W (Zs ++ (As s ++ [aMark D])) → CW none 10 P n ({ target := .collected D, args := #[] } :: ds) c Q l W) :
   CW none 10 P n ds (.rangeFunc g ps assign body) Q l w := fun a ha => by
 have hg := ha.ev hx
 have hw0 := hS.size
 refine wpIn_rangeFunc ?_
 intro fn hfn
 let rec_ : LoopState → Option Code → Loop := fun st pe => { state := st, pending := pe, fn, tmps := a.tmps, params := ps, assign, body, defers := w.heap.size }
 let kd : Nat := w.heap.size
 let lp : Nat := w.heap.size + 1
 let W1 : World := (w.alloc (.deferred (some []))).alloc (.loop (rec_ .ready none))
 have hU : Up w W1 := (Up.alloc _ _).trans (Up.alloc _ _)
 have rec1 : W1.heap[lp]? = some (.loop (rec_ .ready none)) := by
   have := World.alloc_heap_new (w.alloc (.deferred (some []))) (.loop (rec_ .ready none))
   rw [World.size_alloc] at this
   exact this
 have dfr1 : W1.heap[kd]? = some (.deferred (some [])) := (Below.heap_alloc _ _ _ (by simp [kd])).trans (World.alloc_heap_new w _)
 have hne : kd ≠ lp := by show w.heap.size ≠ w.heap.size + 1; omega
 have hlpq : w.heap.size ≤ lp := by show w.heap.size ≤ w.heap.size + 1; omega
 have hZlow : ∀ i, footL Zs i → i < w.heap.size := fun i hi => hS.left.ltL hi
 -- what stands while the loop goes on
 let I : List α → World → Prop := fun pre W => ∃ s, J pre s ∧ w.heap.size ≤ W.heap.size ∧ Sep S0 w0 W (Zs ++ As s) ∧ KoOk w.heap.size W (Zs ++ As s)
 let Ix : Code → List α → World → Prop := fun c pre W => ∃ s, Jx c pre s ∧ w.heap.size ≤ W.heap.size ∧ Sep S0 w0 W (Zs ++ As s) ∧ KoOk w.heap.size W (Zs ++ As s)
 have kI : ∀ pre A B, I pre A → Ko w.heap.size A B → I pre B := fun pre A B ⟨s, h1, h2, h3, h4⟩ k => ⟨s, h1, Nat.le_trans h2 k.size, h3.ko h4 k hw0, h4.ko k⟩
 have kIx : ∀ c pre A B, Ix c pre A → Ko w.heap.size A B → Ix c pre B := fun c pre A B ⟨s, h1, h2, h3, h4⟩ k => ⟨s, h1, Nat.le_trans h2 k.size, h3.ko h4 k hw0, h4.ko k⟩
 have koW : ∀ {A B : World} {row : Option Nat}, A.grownBy B row → (∀ r, row = some r → W1.heap.size ≤ r ∧ ∃ o : Obj, A.heap[r]? = some o ∧ o.isWalk = true) → Ko w.heap.size A B := fun hg' hr => Ko.grown hg' fun r e => by
   obtain ⟨h1, o, h2, h3⟩ := hr r e
   exact ⟨Nat.le_trans (Up.size hU) h1, o, h2, Obj.not_cells_of_walk h3⟩
 have hk1 : ∀ {A B : World} {row : Option Nat} {k : Nat} {o : Obj}, A.grownBy B row → (∀ r, row = some r → W1.heap.size ≤ r ∧ ∃ o : Obj, A.heap[r]? = some o ∧ o.isWalk = true) → A.heap[k]? = some o → o.isWalk = false → B.heap[k]? = some o := fun hg' hr hk ho => (grownBy_keeps hg' (fun r e => (hr r e).2) hk ho).trans hk
 have hI1 : I [] W1 := ⟨s0, hJ, Up.size hU, hS.up hU, KoOk.low fun i hi => hS.ltL hi⟩
 have all := hit lp (fun pre W => I pre W ∧ W.heap[lp]? = some (.loop (rec_ .ready none)) ∧ W.heap[kd]? = some (.deferred (some [])))
   (fun pre W => ∃ c, Ix c pre W ∧ W.heap[lp]? = some (.loop (rec_ .done (some c))) ∧ W.heap[kd]? = some (.deferred (some []))) W1 hU
   (fun s A B row hs hg' hr => ⟨kI _ _ _ hs.1 (koW hg' hr), hk1 hg' hr hs.2.1 rfl, hk1 hg' hr hs.2.2 rfl⟩)
   (fun s A B row hs hg' hr => by
     obtain ⟨c, hc, h1, h2⟩ := hs
     exact ⟨c, kIx _ _ _ _ hc (koW hg' hr), hk1 hg' hr h1 rfl, hk1 hg' hr h2 rfl⟩) ?_ ⟨hI1, rec1, dfr1⟩
 · refine ⟨lp, [{ target := .collected kd, args := #[] }], W1, { target := .fn (.func gf) lb, args := #[.func (.yield lp) #[] #[]] }, W1, gf, #[.func (.yield lp) #[] #[]] ++ lb, W1, run_enterLoop_outer _ _ _ _ _, ?_, fun f' hf' => ?_, ?_, fun _ => cQ, ?_⟩
   · simp only [resolve, hg]
     simp [go_sem]
   · simp [Target.leads] at hf'; subst hf'; trivial
   · simp [invoke, go_sem, en]
   have mk : ∀ {W : World} {s : σ}, w.heap.size ≤ W.heap.size → Sep S0 w0 W (Zs ++ As s) → KoOk w.heap.size W (Zs ++ As s) → W.heap[kd]? = some (.deferred (some [])) → Sep S0 w0 W (Zs ++ (As s ++ [aMark kd])) := fun {W s} hsz h4 h5 hk => by
     rw [← List.append_assoc]
     refine ⟨h4.fr, fun A hA => ?_, List.pairwise_append.2 ⟨h4.apart, List.pairwise_singleton _ _, fun A hA B hB i h6 h7 => ?_⟩⟩
     · rcases List.mem_append.1 hA with hA | hA
       · exact h4.each A hA
       rw [List.mem_singleton.1 hA]
       exact ⟨hk, fun i (e : i = kd) => .inr (by rw [e]; exact hw0)⟩
     rw [List.mem_singleton.1 hB] at h7
     have e7 : i = kd := h7
     rcases h5 i ⟨A, hA, h6⟩ with h8 | ⟨o, h8, h9⟩
     · rw [e7] at h8; exact Nat.lt_irrefl _ h8
     rw [e7, hk] at h8; cases h8; cases h9
   refine (show CallsIn (FR none) 9 P gf (#[.func (.yield lp) #[] #[]] ++ lb) W1 _ from all).mono ?_
   rintro e W2 ⟨⟨v, rfl⟩, (⟨xs, hSx, ⟨s, h1, h2, h3, h4⟩, hlr, hk⟩ | ⟨pre, hSp, c, ⟨s, h1, h2, h3, h4⟩, hlr, hk⟩)⟩
   · have ko : Ko w.heap.size W2 (W2.putObj lp (.loop (rec_ .exhausted none))) := Ko.putObj _ hlr rfl hlpq
     refine ⟨none, W2.putObj lp (.loop (rec_ .exhausted none)), run_endLoop (P := P) hlr (by simp [rec_]), ?_⟩
     exact hdone kd xs s _ (Nat.le_refl _) hSx h1 (Nat.le_trans h2 ko.size) (mk (Nat.le_trans h2 ko.size) (h3.ko h4 ko hw0) (h4.ko ko) ((World.putObj_heap_other hne).trans hk)) _ ⟨by rw [← ha.defers]; rfl, ha.size, (ha.world hl _).val⟩
   have ko : Ko w.heap.size W2 (W2.putObj lp (.loop (rec_ .exhausted (some c)))) := Ko.putObj _ hlr rfl hlpq
   refine ⟨some c, W2.putObj lp (.loop (rec_ .exhausted (some c))), ?_, ?_⟩
   · have := run_endLoop (P := P) hlr (by simp [rec_])
     exact this
   exact hstop kd c pre s _ (Nat.le_refl _) hSp h1 (Nat.le_trans h2 ko.size) (mk (Nat.le_trans h2 ko.size) (h3.ko h4 ko hw0) (h4.ko ko) ((World.putObj_heap_other hne).trans hk)) _ ⟨by rw [← ha.defers]; rfl, ha.size, (ha.world hl _).val⟩
 -- one round
 rintro pre x W ⟨⟨s, hJs, hsz, hSs, hKs⟩, hlr, hk⟩ hlen
 have hy := run_yield (P := P) (args := encs x) hlr (by simp only [rec_]; exact hps x)
 refine ⟨fn, _, assign, body, hy, roundIn_of_wpIn hfn ?_⟩
 refine wpIn_mono (hassign lp x W a (ha.world hl W)) ?_
 intro e a1 W' hq
 cases e with
 | normal =>
   obtain ⟨b, hB, hKB, hA⟩ := hq
   have hU1 := hB.upd
   have hlr1 : W'.heap[lp]? = some (.loop (rec_ .ready none)) := (hU1.block (lt_of_block hlr)).trans hlr
   have hk1' : W'.heap[kd]? = some (.deferred (some [])) := (hU1.block (lt_of_block hk)).trans hk
   refine ⟨_, run_beginRound hlr1 rfl, ?_⟩
   obtain ⟨W2, hW2⟩ : ∃ W2, W2 = W'.putObj lp (.loop { rec_ .ready none with state := .busy }) := ⟨_, rfl⟩
   rw [← hW2]
   have ko1 : Ko w.heap.size W' W2 := by rw [hW2]; exact Ko.putObj _ hlr1 rfl hlpq
   have l2 : W2.heap[lp]? = some (.loop { rec_ .ready none with state := .busy }) := by rw [hW2]; exact World.putObj_heap_same (lt_of_block hlr1)
   have k2 : W2.heap[kd]? = some (.deferred (some [])) := by rw [hW2]; exact (World.putObj_heap_other hne).trans hk1'
   have o2 : ∀ i, i ≠ lp → W2.heap[i]? = W'.heap[i]? := fun i hi => by rw [hW2]; exact World.putObj_heap_other hi
   have hS1 : Sep S0 w0 W' (Zs ++ (As s ++ Bx x b)) := by rw [← List.append_assoc]; exact hSs.join hB
   have hK1 : KoOk w.heap.size W' (Zs ++ (As s ++ Bx x b)) := by
     rw [← List.append_assoc]
     refine KoOk.app.2 ⟨fun i hi => ?_, fun i hi => (hKB i hi).elim (fun h => by omega) .inr⟩
     rcases hKs i hi with h1 | ⟨o, h1, h2⟩
     · exact .inl h1
     exact .inr ⟨o, (hU1.block (lt_of_block h1)).trans h1, h2⟩
   have hS2 := hS1.ko hK1 ko1 hw0
   have hK2 := hK1.ko ko1
   have hsz2 : w.heap.size ≤ W2.heap.size := Nat.le_trans hsz (Nat.le_trans (Up.size hU1) ko1.size)
   refine wpIn_mono (hbody lp pre x s b W2 hJs hlen hsz2 hS2 hS2.right.self a1 (hA.world (henv x b) _)) ?_
   have fin : ∀ (s' : σ) (Rest : List Asr) (W3 : World) (jump : Option Code), Sep (footL (As s ++ Bx x b)) W2 W3 (As s' ++ Rest) → KoOk w.heap.size W3 (As s') →
       ∃ W4, (Instr.endRound lp jump).run P W3 = .ok (.bool jump.isNone) W4 ∧ w.heap.size ≤ W4.heap.size ∧ Sep S0 w0 W4 (Zs ++ As s') ∧ KoOk w.heap.size W4 (Zs ++ As s') ∧ W4.heap[lp]? = some (.loop (rec_ (if jump.isNone then .ready else .done) jump)) ∧ W4.heap[kd]? = some (.deferred (some [])) ∧ Kx w.heap.size (fun i => (S0 i ∨ w0.heap.size ≤ i) ∧ ¬ footL Zs i) (fun i => (S0 i ∨ w0.heap.size ≤ i) ∧ i < w.heap.size ∧ ¬ footL Zs i) W W4 := by
     intro s' Rest W3 jump h5 h6
     have keepN : ∀ (k : Nat) (o : Obj), w.heap.size ≤ k → W2.heap[k]? = some o → o.isCells = false → W3.heap[k]? = some o := fun k o hk' ho hc => (h5.fr.block k (lt_of_block ho) (fun hf => by
       rcases (KoOk.app.1 hK2).2 k hf with h7 | ⟨o', h7, h8⟩
       · omega
       rw [ho] at h7; cases h7; rw [hc] at h8; cases h8)).trans ho
     have l3 := keepN lp _ hlpq l2 rfl
     have k3 := keepN kd _ (Nat.le_refl _) k2 rfl
     have ko3 : ∀ (o' : Obj), Ko w.heap.size W3 (W3.putObj lp o') := fun o' => Ko.putObj _ l3 rfl hlpq
     have h7 : Sep S0 w0 W3 (Zs ++ As s') := (hS2.frame h5).sub (List.Sublist.append_left (List.sublist_append_left _ _) _)
     have h8 : KoOk w.heap.size W3 (Zs ++ As s') := KoOk.app.2 ⟨KoOk.low hZlow, h6⟩
     have hr := run_endRound (P := P) jump l3
     refine ⟨_, hr, Nat.le_trans hsz2 (Nat.le_trans h5.size (ko3 _).size), h7.ko h8 (ko3 _) hw0, h8.ko (ko3 _), World.putObj_heap_same (lt_of_block l3), (World.putObj_heap_other hne).trans k3, ?_⟩
     refine ⟨(ko3 _).os.trans (h5.fr.os.trans (ko1.os.trans hU1.os)), (ko3 _).tape.trans (h5.fr.tape.trans (ko1.tape.trans hU1.tape)), (ko3 _).output.trans (h5.fr.output.trans (ko1.output.trans hU1.output)), Nat.le_trans (Up.size hU1) (Nat.le_trans ko1.size (Nat.le_trans h5.size (ko3 _).size)), fun k o hk' ho => ?_⟩
     have e1 : W'.heap[k]? = some o := (hU1.block (lt_of_block hk')).trans hk'
     have nlp : k ≠ lp := fun e => by
       subst e
       rw [hlr1] at e1; cases e1
       rcases ho with ho | ⟨_, _, ho | ho⟩
       · cases ho.1
       · omega
       cases ho
     have e2 : W2.heap[k]? = some o := (o2 k nlp).trans e1
     have own : ∀ i, footL (As s ++ Bx x b) i → S0 i ∨ w0.heap.size ≤ i := fun i ⟨A, hA, hi⟩ => (hS2.each A (List.mem_append_right _ hA)).2 i hi
     have nF : ¬ footL (As s ++ Bx x b) k := fun hf => by
       rcases ho with ⟨h9, h10⟩ | ⟨h9, h10, h11⟩
       · exact h10 ⟨own k hf, fun hz => hS2.dis hz hf⟩
       rcases (KoOk.app.1 hK2).2 k hf with h12 | ⟨o', h12, h13⟩
       · exact h10 ⟨own k hf, h12, fun hz => hS2.dis hz hf⟩
       rw [e2] at h12; cases h12; rw [h9] at h13; cases h13
     exact (World.putObj_heap_other nlp).trans ((h5.fr.block k (lt_of_block e2) nF).trans e2)
   intro e a2 W3 hp
   cases e with
   | normal =>
     obtain ⟨s', Rest, hJ', h5, h6⟩ := hp
     obtain ⟨W4, hr, h7, h8, h9, h10, h11, h12⟩ := fin s' Rest W3 none h5 h6
     exact ⟨_, _, hr, .inl ⟨rfl, ⟨⟨s', hJ', h7, h8, h9⟩, h10, h11⟩, h12⟩⟩
   | ret =>
     obtain ⟨s', Rest, hJ', h5, h6⟩ := hp
     obtain ⟨W4, hr, h7, h8, h9, h10, h11, h12⟩ := fin s' Rest W3 (some .ret) h5 h6
     exact ⟨_, _, hr, .inr ⟨rfl, .ret, ⟨s', hJ', h7, h8, h9⟩, h10, h11⟩⟩
   | exit id =>
     obtain ⟨s', Rest, hJ', h5, h6⟩ := hp
     obtain ⟨W4, hr, h7, h8, h9, h10, h11, h12⟩ := fin s' Rest W3 (some (.exit id)) h5 h6
     exact ⟨_, _, hr, .inr ⟨rfl, .exit id, ⟨s', hJ', h7, h8, h9⟩, h10, h11⟩⟩
   | goto t =>
     obtain ⟨s', Rest, hJ', h5, h6⟩ := hp
     obtain ⟨W4, hr, h7, h8, h9, h10, h11, h12⟩ := fin s' Rest W3 (some (.goto t)) h5 h6
     exact ⟨_, _, hr, .inr ⟨rfl, .goto t, ⟨s', hJ', h7, h8, h9⟩, h10, h11⟩⟩
   | panic ch => exact hp.elim
   | outgrown => exact hp.elim
 | ret => exact hq.elim
 | exit id => exact hq.elim
 | goto t => exact hq.elim
 | panic ch => exact hq.elim
 | outgrown => exact hq.elim
end
end Go.Wx
end
section
namespace Go.Wx
open Go.Wx.Mk
structure OkS where
 s : Sit
 ok : s.ok
def encS (s : Sit) : Array Go.Value := #[.agg s.cells]
def encOk (x : OkS) : Array Go.Value := #[.agg x.s.cells]
theorem nextBusy {job tool : Int} {s : Sit} (h : 0 < s.r) : nextF job tool s = [⟨s.r, 0, -1, s.u⟩, ⟨s.l, 0, -1, s.u⟩] := if_pos h
theorem nextCmd {job tool : Int} {s : Sit} (h : ¬ 0 < s.r) (k : (s.u && decide (s.l < job)) = true) : nextF job tool s = [⟨s.l, job, tool, false⟩] := by
 rw [Bool.and_eq_true, decide_eq_true_eq] at k
 unfold nextF
 rw [if_neg h, if_pos k]
theorem nextNone {job tool : Int} {s : Sit} (h : ¬ 0 < s.r) (k : (s.u && decide (s.l < job)) = false) : nextF job tool s = [] := by
 unfold nextF
 rw [if_neg h, if_neg]
 rintro ⟨k1, k2⟩
 rw [k1, decide_eq_true k2] at k
 cases k
theorem ok0 : inI 0 := by simp [inI]
theorem okm1 : inI (-1) := by simp [inI]
end Go.Wx
namespace Go.Proofs.Ytpofdidofjlkhaa
open Go.Proofs.Try
open Go.Wx Go.RowKit
theorem keysS_any (b : Nat) (w : World) : Ret Try.prog 36 #[.map (some b)] w fun r w' => (∃ B, r = .func (.func 54) #[] #[.pointer (some ⟨B, 0, none⟩)] ∧ Blk w' B #[.map (some b)] 55 ∧ w.heap.size ≤ B) ∧ Up w w' := by
 have hW := Up.refl w
 refine cS (n := 4) (m := 9) func36 rfl rfl rfl ?_
 refine CW.S ?_
 refine LW.rr (.box1 (.t rfl) rfl) rfl ?_
 rintro _ w1 ⟨B1, rfl, NB1⟩
 have eB1 := NB1.at_
 have zB1 := NB1.size
 replace hW := hW.up NB1.up
 have hB1 := NB1.blk
 refine LW.C (LW.S (CW.region ?_))
 refine LW.pp (.makeFunc (.cons (.t rfl) .nil)) ?_
 refine LW.A rfl (LW.T (CW.ret ?_))
 refine KW.ret1 rfl rfl ⟨_, rfl, ?_⟩
 exact ⟨⟨_, rfl, hB1, by omega⟩, hW⟩
theorem keysS_iter (X Y : Nat → Prop) (B1 b : Nat) (kv : List (Sit × Go.Value)) (w : World) (hYY : ∀ i, Y i → i < w.heap.size) (hQX : ¬ X B1) (hbY : ¬ Y b) (hQ0 : Blk w B1 #[.map (some b)] 55) (hM0 : Mk.IMap sitK w b kv) :
   IterS Try.prog 54 #[.pointer (some ⟨B1, 0, none⟩)] encS X Y (fun ys => ys.Perm (kv.map (·.1))) (fun pre => pre.Nodup ∧ ∀ k ∈ pre, k ∈ kv.map (·.1)) kv.length w := by
 refine IterS.of ?_
 intro lp J Jx w0 hUw _ hY hJ
 obtain ⟨Bd, hBd⟩ : ∃ Bd, Bd = w0.heap.size := ⟨_, rfl⟩
 rw [← hBd] at hJ hY
 have zU := hUw.size
 have hQ := hQ0.up hUw
 have hM := hM0.up hUw
 have zQ0 := hQ.lt
 refine cS (n := 14) (m := 9) func54 rfl rfl rfl ?_
 refine CW.S ?_
 refine LW.pp (.ld isAgg55 rfl (hQ.celln rfl)) ?_
 refine LW.rr (Mk.REv.range (Q := sitK) underlying55 (.t rfl) hM) rfl ?_
 rintro _ w1 ⟨r5, rfl, hR5, uw1, ew1, zw1⟩
 replace hQ := hQ.up uw1
 replace hM := hM.up uw1
 replace hJ := hJ.up uw1
 refine LW.T (CW.block ?_)
 refine CW.loop (σ := List Sit) (fun s w => Jw Bd J s w ∧ Blk w B1 #[.map (some b)] 55 ∧ Mk.IRng sitK w b r5 kv s) (fun s => [(0, .eq (.func (.yield lp) #[] #[])), (5, .eq (.pointer (some ⟨r5, 0, none⟩)))]) (fun s => kv.length - s.length) [] ?_ ?_ ?_
 ·exact ⟨hJ, hQ, hR5⟩
 ·exact ⟨rfl, rfl, trivial⟩
 rintro done w2 ⟨hJ, hQ, hR5⟩
 have zQ := hQ.lt
 refine CW.S ?_
 refine LW.rr (Mk.REv.next (.t rfl) hR5) rfl ?_
 rintro _ w3 (⟨rfl, rfl, hPm⟩ | ⟨k, u, rfl, hNx⟩)
 ·skip
  refine LW.pp (.extract (.t rfl) rfl) (LW.S ?_)
  refine CW.cond_false (.t rfl) ?_
  refine CW.exit (KW.then_exit (KW.then_exit (KW.block_hit ?_)))
  refine KW.end0 rfl ⟨_, rfl, ?_⟩
  first | exact .inl ⟨_, hPm, hJ.j⟩ | exact .inr ⟨_, hR5.sub, hJx⟩
 skip
 obtain ⟨_, ho, hwk⟩ := hNx.walk
 replace hJ := hJ.walk hNx.grown oQ ho hwk
 replace hQ := hQ.sto hNx.sto oQ
 replace hR5 := hNx.rng
 have zw3 := hNx.size
 refine LW.pp (.extract (.t rfl) rfl) (LW.S ?_)
 refine CW.cond_true (.t rfl) ?_
 refine CW.skip (KW.then (CW.block (CW.S ?_)))
 refine LW.rr (.entry (.t rfl) hNx.entry) rfl ?_
 rintro _ _ ⟨rfl, rfl⟩
 refine LW.pp (.extract (.t rfl) rfl) ?_
 refine LW.rr (.allocA zeroValue51) rfl ?_
 rintro _ w4 ⟨B3, rfl, MB3⟩
 refine LW.E (.storeA sizeOf51 rfl (.t rfl) (.t rfl) (Sit.one _) MB3.blk rfl) ?_
 intro w5 LB3
 have NB3 := MB3.set LB3
 clear LB3 MB3
 have eB3 := NB3.at_
 have zB3 := NB3.size
 replace hJ := hJ.up NB3.up
 replace hQ := hQ.up NB3.up
 replace hR5 := hR5.up NB3.up
 have hB3 := NB3.blk
 refine LW.S (CW.region (LW.M rfl ?_))
 refine LW.pp (.la isAgg51 sizeOf51 rfl (hB3.agg)) ?_
 refine LW.y (.t rfl) (.cons (.t rfl) .nil) rfl rfl (hY done k _ hJ (by have := hR5.length; simp at this; omega)) ?_
 rintro _ w6 ⟨y, rfl, hcase⟩
 refine LW.pp (.not (.t rfl)) ?_
 refine LW.T ?_
 refine CW.cond (.t rfl) (fun h13 => ?_) (fun h13 => ?_)
 ·replace h13 := dQ h13
  have hy : y = false := by simpa using h13
  subst hy
  obtain ⟨_, hJx⟩ := hcase.resolve_left (by simp)
  refine CW.ret (KW.block_ret (KW.then_ret (KW.block_ret ?_)))
  refine KW.ret0 rfl ⟨_, rfl, ?_⟩
  first | exact .inl ⟨_, hPm, hJ.j⟩ | exact .inr ⟨_, hR5.sub, hJx⟩
 replace h13 := dQ h13
 have hy : y = true := by simpa using h13
 subst hy
 obtain ⟨_, hJ2, hN⟩ := hcase.resolve_right (by simp)
 replace hQ := hQ.kx hN hQX
 replace hR5 := hR5.kx hN hbY (fun h => by have := hYY _ h; omega)
 refine CW.skip (KW.inBlock (KW.round ?_))
 exact ⟨done ++ [k], ⟨hJ2, hQ, hR5⟩, ⟨rfl, rfl, trivial⟩, by have := hR5.length; simp at this ⊢; omega⟩
theorem appendSeqS_any (g : Nat) (lb : Array Go.Value) (S Sp : List Sit → Prop) (N : Nat) (w : World) (en : ∀ args w, (callFunc g args).run Try.prog w = .ok (.enter g args) w) (hit : ∀ W (X Y : Nat → Prop), Up w W → (∀ i, X i → w.heap.size ≤ i) → (∀ i, Y i → w.heap.size ≤ i ∧ i < W.heap.size) → IterS Try.prog g lb encS X Y S Sp N W) (hN0 : N ≤ 1000000000) : Ret Try.prog 53 #[.slice none 0 0, .func (.func g) #[] lb] w fun r w' => ∃ ks, S ks ∧ (aOwn 51 4 Sit.cells r ks).holds w' ∧ (∀ i, (aOwn 51 4 Sit.cells r ks).foot i → w.heap.size ≤ i) ∧ Up w w' := by
 obtain ⟨w0, rfl⟩ : ∃ w0, w0 = w := ⟨_, rfl⟩
 have hS := (Sep.start no w0).marks0
 change Wx.Sep _ _ _ [_] at hS
 refine Calls_startM (n := 13) func53 rfl rfl rfl ?_
 refine CW.S ?_
 refine LW.rr (.box1 (.t rfl) rfl) rfl ?_
 rintro _ w1 ⟨B2, rfl, NB2⟩
 have eB2 := NB2.at_
 have zB2 := NB2.size
 replace hS := hS.addB NB2
 change Wx.Sep _ _ _ [_, _] at hS
 refine LW.C (LW.S (CW.S (LW.M rfl (LW.T (CW.block ?_)))))
 obtain ⟨bq, hbq⟩ : ∃ bq, bq = w1.heap.size := ⟨_, rfl⟩
 replace hS := hS.add (Up.refl _) (A' := aOwn 51 4 Sit.cells (.slice none 0 0) ([] : List Sit)) (OwnS.nil _ _ _ _ _) (fun i h => by cases h)
 change Wx.Sep _ _ _ [_, _, _] at hS
 refine CW.rangeSep (Zs := [_]) (σ := Go.Value × List Sit) (fun s => [aBlk B2 #[s.1] 74, aOwn 51 4 Sit.cells s.1 s.2]) (fun pre s => (s.2 = pre)) (fun _ _ _ => False) (fun x b => [aBlk b x.cells 51]) (fun x b => [(5, .eq (.pointer (some ⟨b, 0, none⟩))), (2, .eq (.pointer (some ⟨B2, 0, none⟩)))]) (.slice none 0 0, []) (.t rfl) en (hit _ _ _ hS.upd (fun i h => h.1.elim (fun h => h.elim) id) (fun i h => ⟨h.1.elim (fun h => h.elim) id, h.2.1⟩)) (fun _ => rfl) rfl (fun _ _ => rfl) (show Wx.Sep _ _ _ ([_] ++ [_, _]) from hS) rfl ?_ ?_ ?_ ?_
 ·intro lp x w2
  have hS := Sep.start no w2
  refine CW.assign1 rfl ?_
  refine CW.region ?_
  refine LW.rr (.allocA zeroValue51) rfl ?_
  rintro _ w3 ⟨B5, rfl, MB5⟩
  refine LW.E (.storeA sizeOf51 rfl (.t rfl) (.t rfl) (Sit.one _) MB5.blk rfl) ?_
  intro w4 LB5
  have NB5 := MB5.set LB5
  clear LB5 MB5
  have eB5 := NB5.at_
  have zB5 := NB5.size
  replace hS := hS.addB NB5
  change Wx.Sep _ _ _ [_] at hS
  refine LW.nil ?_
  exact fun a ha => ⟨_, hS, .cons (kokB (hS.blk 0 rfl)) (.nil _ _), ha.sub ⟨rfl, rfl, trivial⟩⟩
 ·rintro lp pre x ⟨v, ks⟩ b w5 hJ hlt hqw hS0 hS
  rw [← hbq] at hqw ⊢
  have zq := hqw
  change Wx.Sep _ _ _ [_, _, _] at hS
  subst hJ
  dsimp only at hlt
  refine CW.block (CW.region ?_)
  refine LW.pp (.ld isAgg74 rfl ((hS.blk 0 rfl).celln rfl)) ?_
  refine LW.pp (.la isAgg51 sizeOf51 rfl ((hS.blk 2 rfl).agg)) ?_
  refine LW.rr (.buildSlice (xs := [x]) (enc := Sit.cells) (mk := fun s : Sit => .agg s.cells) underlying74 sizeOf51 zeroValue51 rfl cQ (fun _ => rfl) (fun _ => rfl) (.cons (.t rfl) .nil) rfl) rfl ?_
  rintro _ w6 ⟨B10, cB10, rfl, NB10, yB10, xB10⟩
  have eB10 := NB10.at_
  have zB10 := NB10.size
  replace hS := hS.up NB10.up
  have hE10 := xB10
  refine LW.rr (.appendF (enc := Sit.cells) (bytes := 32) (i := Try.t51) underlying74 kQ rfl rfl rfl rfl cQ (fun _ => rfl) Sit.one (.t rfl) (.t rfl) (hS.own 1 rfl) (Sl.of_els hE10) (by simp only [maxLen, List.length_cons, List.length_nil]; omega) (by simp only [List.length_cons, List.length_nil]; omega)) rfl ?_
  intro v11 w7 Gw7
  have zw7 := Gw7.fr.size
  replace hS := hS.stp 1 rfl Gw7
  change Wx.Sep _ _ _ [_, _, _] at hS
  refine LW.E (.store sizeOf74 (.t rfl) (.t rfl) (hS.own 1 rfl).one (hS.blk 0 rfl) (Nat.le_of_ble_eq_true rfl)) ?_
  intro w8 Nw8
  have zw8 := Nw8.size
  replace hS := hS.putB 0 rfl Nw8
  change Wx.Sep _ _ _ [_, _, _] at hS
  refine LW.nil (KW.inBlock ?_)
  exact fun _ _ => ⟨(v11, ks ++ [x]), _, rfl, hS, .cons (kokB (hS.blk 0 rfl)) (.cons (kokO (hS.own 1 rfl)) (.nil _ _))⟩
 ·rintro Dm ys ⟨v, ks⟩ w9 hDq hYs hJ hqw hS
  rw [← hbq] at hDq hqw
  have zq := hqw
  replace hS := markSet (Ds := []) (As := []) (Bs := [_, _]) hS
  change Wx.Sep _ _ _ [_, _, _] at hS
  refine KW.inBlock (KW.then (CW.S ?_))
  refine LW.pp (.ld isAgg74 rfl ((hS.blk 1 rfl).celln rfl)) ?_
  refine LW.A rfl (LW.T (CW.ret ?_))
  refine KW.unmarks rfl (Dm :: []) _ (hS.get 0 rfl).1 (hS.get 0 rfl).2 ?_
  intro w10 hF_
  replace hS := hS.step 0 rfl (A' := aNil) hF_ trivial (fun _ h => h.elim)
  change Wx.Sep _ _ _ [_, _, _] at hS
  have zw10 := hF_.size
  refine KW.ret1 rfl rfl ⟨_, rfl, ?_⟩
  obtain ⟨rfl⟩ := hJ
  exact ⟨ks, hYs, hS.get 2 rfl, fun i hi => (hS.foot 2 rfl i hi).elim (fun h => h.elim) id, hS.upd⟩
 exact fun _ _ _ _ _ _ _ h => h.elim
theorem collectS_any (g : Nat) (lb : Array Go.Value) (S Sp : List Sit → Prop) (N : Nat) (w : World) (en : ∀ args w, (callFunc g args).run Try.prog w = .ok (.enter g args) w) (hit : ∀ W (X Y : Nat → Prop), Up w W → (∀ i, X i → w.heap.size ≤ i) → (∀ i, Y i → w.heap.size ≤ i ∧ i < W.heap.size) → IterS Try.prog g lb encS X Y S Sp N W) (hN0 : N ≤ 1000000000) : Ret Try.prog 35 #[.func (.func g) #[] lb] w fun r w' => ∃ ks, S ks ∧ (aOwn 51 4 Sit.cells r ks).holds w' ∧ (∀ i, (aOwn 51 4 Sit.cells r ks).foot i → w.heap.size ≤ i) ∧ Up w w' := by
 have hW := Up.refl w
 refine cS (n := 5) (m := 9) func35 rfl rfl rfl ?_
 refine CW.S (LW.C (LW.S (CW.region (LW.M rfl ?_))))
 refine LW.K (eC (.cons (.const _) (.cons (.t rfl) .nil)) (en53)) rfl (appendSeqS_any _ _ _ _ _ _ en hit hN0) ?_
 rintro _ w1 ⟨ks, hS, hO, hF, uw1⟩
 have zw1 := uw1.size
 replace hW := hW.up uw1
 refine LW.A rfl (LW.T (CW.ret ?_))
 refine KW.ret1 rfl rfl ⟨_, rfl, ?_⟩
 exact ⟨ks, hS, hO, hF, hW⟩
theorem cloneS_any (b : Nat) (kv : List (Sit × Go.Value)) (w : World) (hM : Mk.IMap sitK w b kv) : Ret Try.prog 34 #[.map (some b)] w fun r w' => ∃ b', r = .map (some b') ∧ Mk.IMap sitK w' b' kv ∧ w.heap.size ≤ b' ∧ Up w w' := by
 have hW := Up.refl w
 refine cS (n := 9) (m := 9) func34 rfl rfl rfl ?_
 refine CW.S (LW.C (LW.S (CW.S (LW.M rfl ?_))))
 refine LW.pp (.fa (PEv.fa (Mk.PEv.eqlMapNil underlying55 (.t rfl)) rfl) (rfl)) ?_
 refine LW.T ?_
 refine CW.cond_false (.t rfl) ?_
 refine CW.skip (KW.then (CW.S (LW.M rfl ?_)))
 refine LW.pp (Mk.PEv.mkIface kQ (.t rfl)) ?_
 refine LW.rr (Mk.REv.clone func52 rfl rfl kQ kQ (.t rfl) hM) rfl ?_
 rintro _ w1 ⟨b', rfl, hM2, uw1, ew1, zw1⟩
 replace hW := hW.up uw1
 replace hM := hM.up uw1
 refine LW.pp (Mk.PEv.assertMap underlying55 (.t rfl)) ?_
 refine LW.A rfl (LW.T (CW.ret ?_))
 refine KW.ret1 rfl rfl ⟨_, rfl, ?_⟩
 exact ⟨b', rfl, hM2, by omega, hW⟩
theorem next_any (D : Nat) (s : Sit) (w : World) : Ret Try.prog 37 #[.pointer (some ⟨D, 0, none⟩), .agg s.cells] w fun r w' => ∃ Bp Bs, r = .func (.func 55) #[] #[.pointer (some ⟨Bs, 0, none⟩), .pointer (some ⟨Bp, 0, none⟩)] ∧ Sep no w w' [aBlk Bp #[.pointer (some ⟨D, 0, none⟩)] 24, aBlk Bs s.cells 51] := by
 obtain ⟨w0, rfl⟩ : ∃ w0, w0 = w := ⟨_, rfl⟩
 have hS := Sep.start no w0
 refine cS (n := 6) (m := 9) func37 rfl rfl rfl ?_
 refine CW.S ?_
 refine LW.rr (.box1 (.t rfl) rfl) rfl ?_
 rintro _ w1 ⟨B2, rfl, NB2⟩
 have eB2 := NB2.at_
 have zB2 := NB2.size
 replace hS := hS.addB NB2
 change Wx.Sep _ _ _ [_] at hS
 refine LW.rr (.boxA (.t rfl)) rfl ?_
 rintro _ w2 ⟨B3, rfl, NB3⟩
 have eB3 := NB3.at_
 have zB3 := NB3.size
 replace hS := hS.addB NB3
 change Wx.Sep _ _ _ [_, _] at hS
 refine LW.C (LW.S (CW.region ?_))
 refine LW.pp (.makeFunc (.cons (.t rfl) (.cons (.t rfl) .nil))) ?_
 refine LW.A rfl (LW.T (CW.ret ?_))
 refine KW.ret1 rfl rfl ⟨_, rfl, ?_⟩
 exact ⟨_, _, rfl, hS⟩
theorem next_iter (X Y : Nat → Prop) (Bs Bp D b0 : Nat) (s : Sit) (job tool : Int) (w : World) (hs : s.ok) (hj : inI job) (ht : inI tool) (hXs : ¬ X Bs) (hXp : ¬ X Bp) (hXD : ¬ X D) (hS0 : Blk w Bs s.cells 51) (hP0 : Blk w Bp #[.pointer (some ⟨D, 0, none⟩)] 24) (hD0 : Blk w D (belC b0 job tool) 59) :
   IterS Try.prog 55 #[.pointer (some ⟨Bs, 0, none⟩), .pointer (some ⟨Bp, 0, none⟩)] encOk X Y (fun ys => ys.map (·.s) = nextF job tool s) (fun _ => True) 2 w := by
 refine IterS.of ?_
 intro lp J Jx w0 hUw _ hY hJ
 obtain ⟨Bd, hBd⟩ : ∃ Bd, Bd = w0.heap.size := ⟨_, rfl⟩
 rw [← hBd] at hJ hY
 clear hBd
 have hS := hS0.up hUw
 have hP := hP0.up hUw
 have hD := hD0.up hUw
 refine cS (n := 54) (m := 9) func55 rfl rfl rfl ?_
 refine CW.block (CW.S ?_)
 refine LW.pp (.la isAgg51 sizeOf51 rfl (hS.agg)) ?_
 refine LW.K (eC (.o rfl) (en20)) rfl (busy_any s _) ?_
 rintro _ w1 ⟨rfl, uw1⟩
 have zw1 := uw1.size
 replace hS := hS.up uw1
 replace hP := hP.up uw1
 replace hD := hD.up uw1
 replace hJ := hJ.up uw1
 refine LW.A rfl (LW.T ?_)
 refine CW.cond (.t rfl) (fun h4 => ?_) (fun h4 => ?_)
 ·replace h4 := dQ h4
  refine CW.region (LW.M rfl ?_)
  refine LW.pp (.la isAgg51 sizeOf51 rfl (hS.agg)) ?_
  refine LW.pp (.fA 0 underlying51 rfl sizeOf43 rfl) ?_
  refine LW.pp (.fA 1 underlying43 rfl sizeOf3 rfl) ?_
  refine LW.pp (.ld isAgg3 rfl (hS.celln rfl)) ?_
  refine LW.K (eC (.u rfl rfl) (en17)) rfl (rest_any s _ _) ?_
  rintro _ w2 ⟨rfl, uw2⟩
  have zw2 := uw2.size
  replace hS := hS.up uw2
  replace hP := hP.up uw2
  replace hD := hD.up uw2
  replace hJ := hJ.up uw2
  refine LW.y (.t rfl) (.cons (.t rfl) .nil) rfl rfl (hY [] ⟨⟨s.r, 0, -1, s.u⟩, hs.2.1, ok0, okm1⟩ _ hJ cQ) ?_
  rintro _ w3 ⟨y, rfl, (⟨rfl, hJ2, hN⟩ | ⟨rfl, hJx⟩)⟩
  ·skip
   replace hS := hS.kx hN hXs
   replace hP := hP.kx hN hXp
   replace hD := hD.kx hN hXD
   refine LW.M rfl ?_
   refine LW.Y ?_
   refine LW.M rfl ?_
   refine LW.Y ?_
   refine LW.pp (.la isAgg51 sizeOf51 rfl (hS.agg)) ?_
   refine LW.Y ?_
   refine LW.pp (.fA 0 underlying51 rfl sizeOf43 rfl) ?_
   refine LW.Y ?_
   refine LW.pp (.fA 0 underlying43 rfl sizeOf3 rfl) ?_
   refine LW.Y ?_
   refine LW.pp (.ld isAgg3 rfl (hS.celln rfl)) ?_
   refine LW.Y ?_
   refine LW.K (eC (.u rfl rfl) (en17)) rfl (rest_any s _ _) ?_
   rintro _ w4 ⟨rfl, uw4⟩
   have zw4 := uw4.size
   replace hS := hS.up uw4
   replace hP := hP.up uw4
   replace hD := hD.up uw4
   replace hJ2 := hJ2.up uw4
   refine LW.Y ?_
   refine LW.y (.t rfl) (.cons (.t rfl) .nil) rfl rfl (hY _ ⟨⟨s.l, 0, -1, s.u⟩, hs.1, ok0, okm1⟩ _ hJ2 (Nat.lt_succ_self 1)) ?_
   rintro _ w5 ⟨y, rfl, hcase⟩
   refine LW.pp (.pick_and (.t rfl) (fun hp => (by first | exact .const _ | exact .tmp rfl | exact .cond rfl (by first | assumption | simp_all)))) ?_
   refine LW.nil (KW.inBlock ?_)
   refine KW.end0 rfl ⟨_, rfl, ?_⟩
   first | exact .inl ⟨[], (nextNone (by simpa using h4) (by simpa using h23)).symm, hJ.j⟩ | (rcases hcase with ⟨_, hJ3, _⟩ | ⟨_, hJx⟩; exact .inl ⟨[⟨_, _⟩], (nextCmd (by simpa using h4) (by simpa using h23)).symm, hJ3.j⟩; exact .inr ⟨_, trivial, hJx⟩) | (rcases hcase with ⟨_, hJ3, _⟩ | ⟨_, hJx⟩; exact .inl ⟨[⟨_, _⟩, ⟨_, _⟩], (nextBusy (by simpa using h4)).symm, hJ3.j⟩; exact .inr ⟨_, trivial, hJx⟩) | exact .inr ⟨_, trivial, hJx⟩
  skip
  refine LW.M rfl ?_
  refine LW.N ?_
  refine LW.N ?_
  refine LW.N ?_
  refine LW.N ?_
  refine LW.N ?_
  refine LW.N ?_
  refine LW.N ?_
  refine LW.pp (.pick_and (b := false) (.t rfl) (fun hp => absurd (show false = true from hp) cQ)) ?_
  refine LW.nil (KW.inBlock ?_)
  refine KW.end0 rfl ⟨_, rfl, ?_⟩
  first | exact .inl ⟨[], (nextNone (by simpa using h4) (by simpa using h23)).symm, hJ.j⟩ | (rcases hcase with ⟨_, hJ3, _⟩ | ⟨_, hJx⟩; exact .inl ⟨[⟨_, _⟩], (nextCmd (by simpa using h4) (by simpa using h23)).symm, hJ3.j⟩; exact .inr ⟨_, trivial, hJx⟩) | (rcases hcase with ⟨_, hJ3, _⟩ | ⟨_, hJx⟩; exact .inl ⟨[⟨_, _⟩, ⟨_, _⟩], (nextBusy (by simpa using h4)).symm, hJ3.j⟩; exact .inr ⟨_, trivial, hJx⟩) | exact .inr ⟨_, trivial, hJx⟩
 replace h4 := dQ h4
 refine CW.seq ?_
 refine CW.draws kQ kQ rfl rfl ?_
 refine HW.pp (.fA 3 underlying51 rfl sizeOf4 rfl) ?_
 refine HW.pp (.ld isAgg4 rfl (hS.celln rfl)) ?_
 refine HW.pp (.move (.t rfl)) ?_
 refine HW.g rfl rfl rfl rfl rfl rfl (fun hc => PEv.fA 0 underlying51 rfl sizeOf43 rfl) ?_
 refine HW.g rfl rfl rfl rfl rfl rfl (fun hc => PEv.fieldAddr (off := 0) underlying43 rfl rfl sizeOf3 rfl vQ) ?_
 refine HW.g rfl rfl rfl rfl rfl rfl (fun hc => PEv.load isAgg3 vQ (hS.celln rfl)) ?_
 refine HW.g rfl rfl rfl rfl rfl rfl (fun hc => PEv.ld isAgg24 rfl (hP.celln rfl)) ?_
 refine HW.g rfl rfl rfl rfl rfl rfl (fun hc => PEv.nilCheck vQ) ?_
 refine HW.g rfl rfl rfl rfl rfl rfl (fun hc => PEv.fieldAddr (off := 1) underlying59 rfl rfl sizeOf57 rfl vQ) ?_
 refine HW.g rfl rfl rfl rfl rfl rfl (fun hc => PEv.fieldAddr (off := 0) underlying57 rfl rfl sizeOf3 rfl vQ) ?_
 refine HW.g rfl rfl rfl rfl rfl rfl (fun hc => PEv.load isAgg3 vQ (hD.celln rfl)) ?_
 refine HW.g rfl rfl rfl rfl rfl rfl (fun hc => PEv.lss vQ vQ) ?_
 refine HW.pp (.pick_and (.t rfl) (fun hp => (by first | exact .const _ | exact .tmp rfl | exact .cond rfl (by first | assumption | simp_all)))) ?_
 refine HW.pp (.assign (.t rfl)) ?_
 refine HW.nil ?_
 intro w6 uw6
 have zw6 := uw6.size
 replace hS := hS.up uw6
 replace hP := hP.up uw6
 replace hD := hD.up uw6
 replace hJ := hJ.up uw6
 refine KW.then ?_
 refine CW.cond (.t rfl) (fun h23 => ?_) (fun h23 => ?_)
 ·replace h23 := dQ h23
  refine CW.draws_then 16 kQ kQ kQ kQ kQ rfl rfl ?_
  refine HW.pp (.move (.t rfl)) ?_
  refine HW.pp (.fA 0 underlying51 rfl sizeOf43 rfl) ?_
  refine HW.pp (.fA 0 underlying43 rfl sizeOf3 rfl) ?_
  refine HW.pp (.ld isAgg3 rfl (hS.celln rfl)) ?_
  refine HW.pp (.ld isAgg24 rfl (hP.celln rfl)) ?_
  refine HW.pp (.nilCheck (.t rfl)) ?_
  refine HW.pp (.fA 1 underlying59 rfl sizeOf57 rfl) ?_
  refine HW.pp (.fA 0 underlying57 rfl sizeOf3 rfl) ?_
  refine HW.pp (.ld isAgg3 rfl (hD.celln rfl)) ?_
  refine HW.pp (.ld isAgg24 rfl (hP.celln rfl)) ?_
  refine HW.pp (.nilCheck (.t rfl)) ?_
  refine HW.pp (.fA 1 underlying59 rfl sizeOf57 rfl) ?_
  refine HW.pp (.fA 1 underlying57 rfl sizeOf3 rfl) ?_
  refine HW.pp (.ld isAgg3 rfl (hD.celln rfl)) ?_
  refine HW.pp (.build (cs := (Wd.mk s.l job tool).cells) underlying43 zeroValue43 Try.places43 (.cons (.t rfl) (.cons (.t rfl) (.cons (.t rfl) .nil))) rfl) ?_
  refine HW.pp (.build (cs := (Sit.mk s.l job tool false).cells) underlying51 zeroValue51 Try.places51 (.cons (.t rfl) (.cons (.const _) .nil)) rfl) ?_
  refine HW.nil ?_
  intro w7 uw7
  have zw7 := uw7.size
  replace hS := hS.up uw7
  replace hP := hP.up uw7
  replace hD := hD.up uw7
  replace hJ := hJ.up uw7
  refine LW.y (.t rfl) (.cons (.t rfl) .nil) rfl rfl (hY [] ⟨⟨s.l, job, tool, false⟩, hs.1, hj, ht⟩ _ hJ cQ) ?_
  rintro _ w8 ⟨y, rfl, hcase⟩
  refine LW.nil (KW.inBlock ?_)
  refine KW.end0 rfl ⟨_, rfl, ?_⟩
  first | exact .inl ⟨[], (nextNone (by simpa using h4) (by simpa using h23)).symm, hJ.j⟩ | (rcases hcase with ⟨_, hJ3, _⟩ | ⟨_, hJx⟩; exact .inl ⟨[⟨_, _⟩], (nextCmd (by simpa using h4) (by simpa using h23)).symm, hJ3.j⟩; exact .inr ⟨_, trivial, hJx⟩) | (rcases hcase with ⟨_, hJ3, _⟩ | ⟨_, hJx⟩; exact .inl ⟨[⟨_, _⟩, ⟨_, _⟩], (nextBusy (by simpa using h4)).symm, hJ3.j⟩; exact .inr ⟨_, trivial, hJx⟩) | exact .inr ⟨_, trivial, hJx⟩
 replace h23 := dQ h23
 refine CW.skip (KW.inBlock ?_)
 refine KW.end0 rfl ⟨_, rfl, ?_⟩
 first | exact .inl ⟨[], (nextNone (by simpa using h4) (by simpa using h23)).symm, hJ.j⟩ | (rcases hcase with ⟨_, hJ3, _⟩ | ⟨_, hJx⟩; exact .inl ⟨[⟨_, _⟩], (nextCmd (by simpa using h4) (by simpa using h23)).symm, hJ3.j⟩; exact .inr ⟨_, trivial, hJx⟩) | (rcases hcase with ⟨_, hJ3, _⟩ | ⟨_, hJx⟩; exact .inl ⟨[⟨_, _⟩, ⟨_, _⟩], (nextBusy (by simpa using h4)).symm, hJ3.j⟩; exact .inr ⟨_, trivial, hJx⟩) | exact .inr ⟨_, trivial, hJx⟩
end Go.Proofs.Ytpofdidofjlkhaa
end
section
namespace Go.Wx
open Go.RowKit
section
variable {P : Program} {n : Nat} {ds : List Deferred} {l : Env} {w : World} {d : Option Tmp} {ty : TypeId} {ps : String} {af : Array Edge} {g : Option (Nat × Bool)}
theorem PEv.sliceFrom {T e : TypeId} {x lo : Operand} {ad : Option Addr} {k m cap j : Nat} (hT : P.underlying T = some (.slice e)) (hs : ∀ w, (sizeOf e).run P w = .ok k w) (hx : Val l x (.slice ad m cap)) (hl : Val l lo (.int .i64 (j : Int))) (hj : j ≤ m) :
   PEv P n ds l w ⟨d, .slice T x (some lo) none none, ty, ps, af, g⟩ (.slice (if cap = j then ad else ad.map (·.add (j * k))) (m - j) (cap - j)) := fun a w' ha _ => by
 refine run_v ?_
 rw [ha.ev hx]
 simp only [Option.map_none, Option.map_some, ha.ev hl]
 simp [Instr.sliceAt, Instr.slice, Instr.sliceBounds, Instr.sliceBound, asIntOf, run_underlying hT, Result.andThen, hs, hj]
end
end Go.Wx
end
section
namespace Go.Wx
open Go.Wx.Mk
theorem wt_pos (s : Sit) : 1 ≤ wtF s ∧ wtF s ≤ 9 := by
 unfold wtF
 split <;> split <;> decide
theorem wt_len (l : List Sit) : l.length ≤ (l.map wtF).sum := by
 induction l with
 | nil => exact Nat.zero_le _
 | cons a l ih => rw [List.map_cons, List.sum_cons, List.length_cons]; have := wt_pos a; omega
theorem wt_top (l : List Sit) : (l.map wtF).sum ≤ 9 * l.length := by
 induction l with
 | nil => exact Nat.le_refl _
 | cons a l ih => rw [List.map_cons, List.sum_cons, List.length_cons]; have := wt_pos a; omega
theorem addS_no {tL : List Sit × List Sit} {v : Sit} (h : v ∈ tL.2) : addS tL v = tL := if_pos h
theorem addS_yes {tL : List Sit × List Sit} {v : Sit} (h : ¬ v ∈ tL.2) : addS tL v = (tL.1 ++ [v], tL.2 ++ [v]) := if_neg h
theorem addL_no {L : List Sit} {v : Sit} (h : v ∈ L) : addL L v = L := if_pos h
theorem addL_yes {L : List Sit} {v : Sit} (h : ¬ v ∈ L) : addL L v = L ++ [v] := if_neg h
theorem IMap.okL {w : World} {b : Nat} {L : List Sit} (h : Mk.IMap sitK w b (L.map unS)) : ∀ s ∈ L, s.ok := by
 obtain ⟨es, clock, h1, h2, h3, ho⟩ := h
 exact fun s hs => ho (unS s) (List.mem_map.2 ⟨s, hs, rfl⟩)
theorem IMap.ndL {w : World} {b : Nat} {L : List Sit} (h : Mk.IMap sitK w b (L.map unS)) : L.Nodup := by
 have := h.nodup
 rwa [unS_keys] at this
end Go.Wx
namespace Go.Proofs.Ytpofdidofjlkhaa
open Go.Proofs.Try
open Go.Wx Go.RowKit
theorem passed_any (D b0 : Nat) (L : List Sit) (job tool : Int) (w : World) (hD : Blk w D (belC b0 job tool) 59) (hM0 : Mk.IMap sitK w b0 (L.map unS)) (hL : L.length ≤ 1000000) (hj : inI job) (ht : inI tool) : Ret Try.prog 23 #[.pointer (some ⟨D, 0, none⟩)] w fun r w' => ∃ (b' : Nat) (L' : List Sit), r = .map (some b') ∧ Mk.IMap sitK w' b' (L'.map unS) ∧ (∀ s, s ∈ L' ↔ Cl job tool (· ∈ L) s) ∧ w.heap.size ≤ b' ∧ Up w w' := by
 obtain ⟨w0, rfl⟩ : ∃ w0, w0 = w := ⟨_, rfl⟩
 have hS := (Sep.start no w0).marks0
 change Wx.Sep _ _ _ [_] at hS
 refine Calls_startM (n := 42) func23 rfl rfl rfl ?_
 refine CW.S (LW.C (LW.S (CW.region (LW.M rfl ?_))))
 refine LW.pp (.nilCheck (.t rfl)) ?_
 refine LW.pp (.fA 0 underlying59 rfl sizeOf55 rfl) ?_
 refine LW.pp (.ld isAgg55 rfl ((hD.up hS.upd).celln rfl)) ?_
 refine LW.K (eC (.o rfl) (en34)) rfl (cloneS_any b0 _ _ (hM0.up hS.upd)) ?_
 rintro _ w1 ⟨bM, rfl, hMn, zM, uw1⟩
 have zw1 := uw1.size
 replace hS := hS.add uw1 (A' := Mk.aIMap sitK bM ((L).map unS)) (hMn) (fun i (e : i = bM) => by rw [e]; exact zM)
 change Wx.Sep _ _ _ [_, _] at hS
 refine LW.rr (.alloc1 zeroValue55 rfl) rfl ?_
 rintro _ w2 ⟨B3, rfl, MB3⟩
 refine LW.E (.store sizeOf55 (.t rfl) (.t rfl) rfl MB3.blk cQ) ?_
 intro w3 LB3
 have NB3 := MB3.set LB3
 clear LB3 MB3
 have eB3 := NB3.at_
 have zB3 := NB3.size
 replace hS := hS.addB NB3
 change Wx.Sep _ _ _ [_, _, _] at hS
 refine LW.S (CW.S ?_)
 refine LW.pp (.ld isAgg55 rfl ((hS.blk 2 rfl).celln rfl)) ?_
 refine LW.K (eC (.o rfl) (en36)) rfl (keysS_any bM _) ?_
 rintro _ w4 ⟨⟨BK, rfl, hBK, zK⟩, uw4⟩
 have zw4 := uw4.size
 replace hS := hS.up uw4
 have zBK := hBK.lt
 have hMk2 := hS.get 1 rfl
 have zMl := Mk.IMap.lt hMk2
 refine LW.K (eC (.o rfl) (en35)) rfl (collectS_any _ _ _ _ _ _ en54 (fun W X Y u hX hY => keysS_iter X Y BK bM _ W (fun i h => (hY i h).2) (fun h => by have := hX _ h; omega) (fun h => by have := (hY _ h).1; omega) (hBK.up u) (Mk.IMap.up hMk2 u)) (by rw [List.length_map]; omega)) ?_
 rintro v14 w5 ⟨ks, hks, hO, hOn, uw5⟩
 have zw5 := uw5.size
 replace hS := hS.add uw5 (A' := aOwn 51 4 Sit.cells v14 ks) (hO) (hOn)
 change Wx.Sep _ _ _ [_, _, _, _] at hS
 refine LW.rr (.alloc1 zeroValue74 rfl) rfl ?_
 rintro _ w6 ⟨B4, rfl, MB4⟩
 refine LW.E (.store sizeOf74 (.t rfl) (.t rfl) hO.one MB4.blk cQ) ?_
 intro w7 LB4
 have NB4 := MB4.set LB4
 clear LB4 MB4
 have eB4 := NB4.at_
 have zB4 := NB4.size
 replace hS := hS.addB NB4
 change Wx.Sep _ _ _ [_, _, _, _, _] at hS
 refine LW.T (CW.block ?_)
 refine CW.loopBD (σ := Nat × Go.Value × List Sit × List Sit × List Nat) (fun s w => (Pas job tool (· ∈ L) s.2.2.1 s.2.2.2.1) ∧ ((s.2.2.1.map wtF).sum ≤ 9 * L.length) ∧ (Wx.Sep no w0 w [aMarks s.2.2.2.2, Mk.aIMap sitK bM ((s.2.2.2.1).map unS), aBlk B3 #[.map (some bM)] 55, aOwn 51 4 Sit.cells s.2.1 s.2.2.1, aBlk s.1 #[s.2.1] 74])) (fun s => [(4, .eq (.pointer (some ⟨s.1, 0, none⟩)))]) ([(0, .eq _), (2, .eq _), (3, .eq _)]) (fun s => markDs (s.2.2.2.2)) (fun s => (s.2.2.1.map wtF).sum) (B4, v14, ks, L, []) ?_ rfl ⟨rfl, rfl, rfl, rfl, trivial⟩ ?_
 ·exact ⟨Pas.start (IMap.ndL hM0) (fun s => by have := hks.mem_iff (a := s); rwa [unS_keys] at this), Nat.le_trans (wt_top ks) (by have := hks.length_eq; rw [unS_keys] at this; omega), hS⟩
 rintro ⟨b4, v, t, M, Ds⟩ w8 ⟨hPas, hWt, hS⟩
 dsimp only at hPas hWt hS
 change CW _ _ _ _ _ _ _ ([(4, .eq (.pointer (some ⟨b4, 0, none⟩)))] ++ _) _
 refine CW.seq (CW.seq ?_)
 obtain ⟨ad, cp, rfl, _⟩ := (hS.own 3 rfl).sl (fun _ => rfl)
 refine CW.region ?_
 refine LW.pp (.ld isAgg74 rfl ((hS.blk 4 rfl).celln rfl)) ?_
 refine LW.pp (.lenS underlying74 (.t rfl)) ?_
 refine LW.pp (.gtr (.t rfl) (.const _)) ?_
 refine LW.T ?_
 refine CW.cond (.t rfl) (fun h17 => ?_) (fun h17 => ?_)
 ·replace h17 := dQ h17
  obtain ⟨t', z, rfl⟩ : ∃ t' z, t = t' ++ [z] := ⟨t.dropLast, t.getLast (by rintro rfl; simp at h17), (List.dropLast_concat_getLast _).symm⟩
  have hzM : z ∈ M := hPas.sub z (List.mem_append_right _ (List.mem_singleton.2 rfl))
  obtain ⟨Bx, ox, ax, hcx⟩ := (OwnS.elsS (hS.own 3 rfl) (fun _ => rfl)) t'.length z (by simp)
  have hwt := wt_step (job := job) (tool := tool) (todo := t') (L := M) (s := z)
  have hcp := (OwnS.cap (hS.own 3 rfl)).1
  have hln := wt_len (t' ++ [z])
  have hl1 : (t' ++ [z]).length = t'.length + 1 := by simp
  have hzok := IMap.okL (hS.get 1 rfl) z hzM
  have zMb := Mk.IMap.lt (hS.get 1 rfl)
  refine CW.skip (KW.then (CW.seq (CW.block (CW.S ?_))))
  refine LW.pp (.ld isAgg74 rfl ((hS.blk 4 rfl).celln rfl)) ?_
  refine LW.pp (.ld isAgg74 rfl ((hS.blk 4 rfl).celln rfl)) ?_
  refine LW.pp (.lenS underlying74 (.t rfl)) ?_
  refine LW.pp (.as (v' := vi (t'.length : Int)) (PEv.sub (.t rfl) (.const _) oQ oQ) (congrArg vi (by rw [hl1]; omega))) ?_
  refine LW.pp (.indexAddr' underlying74 sizeOf51 (j := t'.length) (.t rfl) (.t rfl) (by simp) ax) ?_
  refine LW.pp (.la isAgg51 sizeOf51 rfl (hcx)) ?_
  refine LW.rr (.allocA zeroValue51) rfl ?_
  rintro _ w9 ⟨B5, rfl, MB5⟩
  refine LW.E (.storeA sizeOf51 rfl (.t rfl) (.t rfl) (Sit.one _) MB5.blk rfl) ?_
  intro w10 LB5
  have NB5 := MB5.set LB5
  clear LB5 MB5
  have eB5 := NB5.at_
  have zB5 := NB5.size
  replace hS := hS.addB NB5
  change Wx.Sep _ _ _ [_, _, _, _, _, _] at hS
  refine LW.S (CW.region ?_)
  refine LW.pp (.ld isAgg74 rfl ((hS.blk 4 rfl).celln rfl)) ?_
  refine LW.pp (.ld isAgg74 rfl ((hS.blk 4 rfl).celln rfl)) ?_
  refine LW.pp (.lenS underlying74 (.t rfl)) ?_
  refine LW.pp (.as (v' := vi (t'.length : Int)) (PEv.sub (.t rfl) (.const _) oQ oQ) (congrArg vi (by rw [hl1]; omega))) ?_
  refine LW.pp (.sliceHi underlying74 sizeOf51 (.t rfl) (.t rfl) oQ) ?_
  refine LW.E (.store sizeOf74 (.t rfl) (.t rfl) rfl (hS.blk 4 rfl) (Nat.le_of_ble_eq_true rfl)) ?_
  intro w11 Nw11
  have zw11 := Nw11.size
  replace hS := hS.putB 4 rfl (show Set_ _ w11 _ (#[.slice ad t'.length cp]) _ from Nw11)
  change Wx.Sep _ _ _ [_, _, _, _, _, _] at hS
  refine LW.nil ?_
  replace hS := hS.stp 3 rfl (stp_short (j := t'.length) (fun _ => rfl) (hS.own 3 rfl) (by simp))
  rw [List.take_left] at hS
  change Wx.Sep _ _ _ [_, _, _, _, _, _] at hS
  refine KW.then (CW.S (LW.M rfl ?_))
  refine LW.pp (.la isAgg51 sizeOf51 rfl ((hS.blk 5 rfl).agg)) ?_
  refine LW.K (eC (.u rfl rfl) (en37)) rfl (next_any D z _) ?_
  rintro _ w12 ⟨Bp, Bs, rfl, hNs⟩
  have zN := hNs.size
  replace hS := hS.join hNs
  replace hS : Wx.Sep no w0 w12 (_ :: ([_, _, _, _, _] ++ [_, _])) := hS
  replace hS := Sep.rot hS
  change Wx.Sep _ _ _ [_, _, _, _, _, _, _, _] at hS
  refine LW.T (CW.block ?_)
  obtain ⟨bq, hbq⟩ : ∃ bq, bq = w12.heap.size := ⟨_, rfl⟩
  have zMq := Mk.IMap.lt (hS.get 3 rfl)
  refine CW.rangeSep (Zs := [_, _, _]) (σ := Go.Value × List Sit × List Sit) (fun s => [Mk.aIMap sitK bM ((s.2.2).map unS), aBlk B3 #[.map (some bM)] 55, aOwn 51 4 Sit.cells s.1 s.2.1, aBlk b4 #[s.1] 74, aBlk B5 z.cells 51]) (fun pre s => ((s.2.1, s.2.2) = (pre.map (·.s)).foldl addS (t', M)) ∧ (s.2.1.length ≤ t'.length + pre.length)) (fun _ _ _ => False) (fun x b => [aBlk b x.s.cells 51]) (fun x b => [(6, .eq (.pointer (some ⟨b, 0, none⟩))), (3, .eq (.pointer (some ⟨B3, 0, none⟩))), (4, .eq (.pointer (some ⟨b4, 0, none⟩)))]) (.slice ad t'.length cp, t', M) (.t rfl) (fun args w => en55 args w) (next_iter _ _ Bs Bp D b0 z job tool _ hzok hj ht (fun h => h.2 ⟨_, List.mem_cons_of_mem _ (List.mem_cons_of_mem _ List.mem_cons_self), rfl⟩) (fun h => h.2 ⟨_, List.mem_cons_of_mem _ List.mem_cons_self, rfl⟩) (fun h => h.1.elim id (fun h => by have := hD.lt; omega)) (hS.blk 2 rfl) (hS.blk 1 rfl) (hD.up hS.upd)) (fun _ => rfl) rfl (fun _ _ => rfl) (show Wx.Sep _ _ _ ([_, _, _] ++ [_, _, _, _, _]) from hS) ⟨rfl, Nat.le_refl _⟩ ?_ ?_ ?_ ?_
  ·intro lp x w13
   have hS := Sep.start no w13
   refine CW.assign1 rfl ?_
   refine CW.region ?_
   refine LW.rr (.allocA zeroValue51) rfl ?_
   rintro _ w14 ⟨B6, rfl, MB6⟩
   refine LW.E (.storeA sizeOf51 rfl (.t rfl) (.t rfl) (Sit.one _) MB6.blk rfl) ?_
   intro w15 LB6
   have NB6 := MB6.set LB6
   clear LB6 MB6
   have eB6 := NB6.at_
   have zB6 := NB6.size
   replace hS := hS.addB NB6
   change Wx.Sep _ _ _ [_] at hS
   refine LW.nil ?_
   exact fun a ha => ⟨_, hS, .cons (kokB (hS.blk 0 rfl)) (.nil _ _), ha.sub ⟨rfl, rfl, rfl, trivial⟩⟩
  ·rintro lp pre x ⟨v2, t2, M2⟩ b w16 ⟨hJ, hLn⟩ hlt hqw hS0 hS
   rw [← hbq] at hqw ⊢
   have zq := hqw
   change Wx.Sep _ _ _ [_, _, _, _, _, _] at hS
   dsimp only at hJ hLn hlt
   refine CW.block (CW.S ?_)
   refine LW.pp (.ld isAgg55 rfl ((hS.blk 1 rfl).celln rfl)) ?_
   refine LW.pp (.la isAgg51 sizeOf51 rfl ((hS.blk 5 rfl).agg)) ?_
   refine LW.K (eC (.u rfl rfl) (en33)) rfl (add_any bM M2 x.s _ x.ok (hS.get 0 rfl)) ?_
   rintro _ w17 ⟨rfl, uw17⟩
   have zw17 := uw17.fr.size
   replace hS := hS.stp 0 rfl uw17
   change Wx.Sep _ _ _ [_, _, _, _, _, _] at hS
   refine LW.T ?_
   refine CW.cond (.t rfl) (fun h35 => ?_) (fun h35 => ?_)
   ·replace h35 := dQ h35
    have hx : ¬ x.s ∈ M2 := by simpa using h35
    rw [addL_yes hx] at hS
    refine CW.region ?_
    refine LW.pp (.ld isAgg74 rfl ((hS.blk 3 rfl).celln rfl)) ?_
    refine LW.pp (.la isAgg51 sizeOf51 rfl ((hS.blk 5 rfl).agg)) ?_
    refine LW.rr (.buildSlice (xs := [x.s]) (enc := Sit.cells) (mk := fun s : Sit => .agg s.cells) underlying74 sizeOf51 zeroValue51 rfl cQ (fun _ => rfl) (fun _ => rfl) (.cons (.t rfl) .nil) rfl) rfl ?_
    rintro _ w18 ⟨B38, cB38, rfl, NB38, yB38, xB38⟩
    have eB38 := NB38.at_
    have zB38 := NB38.size
    replace hS := hS.up NB38.up
    have hE38 := xB38
    refine LW.rr (.appendF (enc := Sit.cells) (bytes := 32) (i := Try.t51) underlying74 kQ rfl rfl rfl rfl cQ (fun _ => rfl) Sit.one (.t rfl) (.t rfl) (hS.own 2 rfl) (Sl.of_els hE38) (by simp only [maxLen, List.length_cons, List.length_nil]; omega) (by simp only [List.length_cons, List.length_nil]; omega)) rfl ?_
    intro v39 w19 Gw19
    have zw19 := Gw19.fr.size
    replace hS := hS.stp 2 rfl Gw19
    change Wx.Sep _ _ _ [_, _, _, _, _, _] at hS
    refine LW.E (.store sizeOf74 (.t rfl) (.t rfl) (hS.own 2 rfl).one (hS.blk 3 rfl) (Nat.le_of_ble_eq_true rfl)) ?_
    intro w20 Nw20
    have zw20 := Nw20.size
    replace hS := hS.putB 3 rfl (show Set_ _ w20 _ (#[v39]) _ from Nw20)
    change Wx.Sep _ _ _ [_, _, _, _, _, _] at hS
    refine LW.nil (KW.inBlock ?_)
    exact fun _ _ => ⟨(v39, t2 ++ [x.s], M2 ++ [x.s]), _, ⟨by rw [List.map_append, List.foldl_append, ← hJ]; exact (addS_yes (tL := (t2, M2)) hx).symm, by simp only [List.length_append, List.length_singleton]; omega⟩, hS, .cons (fun i (e : i = bM) => .inl oQ) (.cons (kokB (hS.blk 1 rfl)) (.cons (kokO (hS.own 2 rfl)) (.cons (kokB (hS.blk 3 rfl)) (.cons (kokB (hS.blk 4 rfl)) (.nil _ _)))))⟩
   replace h35 := dQ h35
   have hx : x.s ∈ M2 := by simpa using h35
   rw [addL_no hx] at hS
   refine CW.skip (KW.inBlock ?_)
   exact fun _ _ => ⟨(v2, t2, M2), _, ⟨by rw [List.map_append, List.foldl_append, ← hJ]; exact (addS_no (tL := (t2, M2)) hx).symm, by simp only [List.length_append, List.length_singleton]; omega⟩, hS, .cons (fun i (e : i = bM) => .inl oQ) (.cons (kokB (hS.blk 1 rfl)) (.cons (kokO (hS.own 2 rfl)) (.cons (kokB (hS.blk 3 rfl)) (.cons (kokB (hS.blk 4 rfl)) (.nil _ _)))))⟩
  ·rintro Dm ys ⟨v2, t2, M2⟩ w21 hDq hYs ⟨hJ, hLn⟩ hqw hS
   rw [← hbq] at hDq hqw
   have zq := hqw
   replace hS := markSet (Ds := Ds) (As := [_, _]) (Bs := [_, _, _, _, _]) hS
   change Wx.Sep _ _ _ [_, _, _, _, _, _, _, _] at hS
   dsimp only at hJ hLn
   rw [hYs] at hJ
   rw [← hJ] at hwt
   dsimp only at hwt
   refine KW.inBlock (KW.inBlock (KW.then (CW.S ?_)))
   refine LW.pp (.ld isAgg74 rfl ((hS.blk 6 rfl).celln rfl)) ?_
   refine LW.T (CW.region ?_)
   refine LW.rr (.alloc1 zeroValue74 rfl) rfl ?_
   rintro _ w22 ⟨B4, rfl, MB4⟩
   refine LW.E (.store sizeOf74 (.t rfl) (.t rfl) (hS.own 5 rfl).one MB4.blk cQ) ?_
   intro w23 LB4
   have NB4 := MB4.set LB4
   clear LB4 MB4
   have eB4 := NB4.at_
   have zB4 := NB4.size
   replace hS := hS.addB NB4
   change Wx.Sep _ _ _ [_, _, _, _, _, _, _, _, _] at hS
   refine LW.nil ?_
   refine KW.roundD ?_
   exact ⟨(B4, v2, t2, M2, Dm :: Ds), ⟨by have := hPas.step (s := z); rw [← hJ] at this; exact this, by dsimp only; omega, hS.sub (.cons_cons _ (.cons _ (.cons _ (.cons_cons _ (.cons_cons _ (.cons_cons _ (.cons _ (.cons _ (.cons_cons _ .slnil)))))))))⟩, rfl, ⟨rfl, rfl, rfl, rfl, trivial⟩, by first | omega | (dsimp only; omega)⟩
  exact fun _ _ _ _ _ _ _ h => h.elim
 replace h17 := dQ h17
 have ht0 : t = [] := List.eq_nil_of_length_eq_zero (by simp at h17; first | omega | simp [h17])
 subst ht0
 refine CW.exit (KW.then_exit (KW.then_exit (KW.block_hit (KW.then (CW.S ?_)))))
 refine LW.pp (.ld isAgg55 rfl ((hS.blk 2 rfl).celln rfl)) ?_
 refine LW.A rfl (LW.T (CW.ret ?_))
 refine KW.unmarks rfl Ds _ (hS.get 0 rfl).1 (hS.get 0 rfl).2 ?_
 intro w24 hF_
 replace hS := hS.step 0 rfl (A' := aNil) hF_ trivial (fun _ h => h.elim)
 change Wx.Sep _ _ _ [_, _, _, _, _] at hS
 have zw24 := hF_.size
 refine KW.ret1 rfl rfl ⟨_, rfl, ?_⟩
 exact ⟨bM, M, rfl, hS.get 1 rfl, fun s => hPas.done s, zM, hS.upd⟩
end Go.Proofs.Ytpofdidofjlkhaa
end
section
namespace Go.Proofs.Ytpofdidofjlkhaa
open Go.Proofs.Try
open Go.Wx Go.RowKit
theorem rst1_any (x : Wd) (Bt : Nat) (t : Int) (w : World) (hT : Blk w Bt #[vi t] 3) : Ret Try.prog 25 #[.agg x.cells, .pointer (some ⟨Bt, 0, none⟩)] w fun r w' => r = .bool (fitsR t x) ∧ Up w w' := by
 have hW := Up.refl w
 refine cS (n := 13) (m := 9) func25 rfl rfl rfl ?_
 refine CW.S ?_
 refine LW.rr (.boxA (.t rfl)) rfl ?_
 rintro _ w1 ⟨B2, rfl, NB2⟩
 have eB2 := NB2.at_
 have zB2 := NB2.size
 replace hT := hT.up NB2.up
 replace hW := hW.up NB2.up
 have hB2 := NB2.blk
 refine LW.C (LW.S (CW.region ?_))
 refine LW.pp (.fA 1 underlying43 rfl sizeOf3 rfl) ?_
 refine LW.pp (.ld isAgg3 rfl (hB2.celln rfl)) ?_
 refine LW.pp (.eql (.t rfl) (.const _)) ?_
 refine LW.M rfl ?_
 refine LW.g rfl rfl rfl rfl rfl rfl rfl (fun hc => PEv.fA 2 underlying43 rfl sizeOf3 rfl) ?_
 refine LW.g rfl rfl rfl rfl rfl rfl rfl (fun hc => PEv.load isAgg3 vQ (hB2.celln rfl)) ?_
 refine LW.g rfl rfl rfl rfl rfl rfl rfl (fun hc => PEv.ld isAgg3 rfl (hT.celln rfl)) ?_
 refine LW.g rfl rfl rfl rfl rfl rfl rfl (fun hc => PEv.neq vQ vQ) ?_
 refine LW.pp (.pick_or (.t rfl) (fun hp => (by first | exact .const _ | exact .tmp rfl | exact .cond rfl (by first | assumption | simp_all)))) ?_
 refine LW.A rfl (LW.T (CW.ret ?_))
 refine KW.ret1 rfl rfl ⟨_, rfl, ?_⟩
 exact ⟨rfl, hW⟩
theorem cmd1T (s : Sit) (hu : s.u = true) (Bj : Nat) (j : Int) (w : World) (hJ : Blk w Bj #[vi j] 3) : Ret Try.prog 19 #[.agg s.cells, .pointer (some ⟨Bj, 0, none⟩)] w fun r w' => r = .bool (s.u || (decide (s.r > 0) || decide (s.l ≥ j))) ∧ Up w w' := by
 have hW := Up.refl w
 obtain ⟨l, r, p, u⟩ := s
 cases hu
 refine cS (n := 17) (m := 9) func19 rfl rfl rfl ?_
 refine CW.S ?_
 refine LW.rr (.boxA (.t rfl)) rfl ?_
 rintro _ w1 ⟨B2, rfl, NB2⟩
 have eB2 := NB2.at_
 have zB2 := NB2.size
 replace hJ := hJ.up NB2.up
 replace hW := hW.up NB2.up
 have hB2 := NB2.blk
 refine LW.C (LW.S (CW.region ?_))
 refine LW.pp (.fA 3 underlying51 rfl sizeOf4 rfl) ?_
 refine LW.pp (.ld isAgg4 rfl (hB2.celln rfl)) ?_
 refine LW.M rfl ?_
 refine LW.N ?_
 refine LW.N ?_
 refine LW.pp (.pick_or (b := false) (.t rfl) (fun hp => absurd (show true = false from hp) cQ)) ?_
 refine LW.M rfl ?_
 refine LW.N ?_
 refine LW.N ?_
 refine LW.N ?_
 refine LW.N ?_
 refine LW.N ?_
 refine LW.pp (.pick_or (b := false) (.t rfl) (fun hp => absurd (show true = false from hp) cQ)) ?_
 refine LW.A rfl (LW.T (CW.ret ?_))
 refine KW.ret1 rfl rfl ⟨_, rfl, ?_⟩
 exact ⟨by simp, hW⟩
theorem cmd1F (s : Sit) (hu : s.u = false) (Bj : Nat) (j : Int) (w : World) (hJ : Blk w Bj #[vi j] 3) : Ret Try.prog 19 #[.agg s.cells, .pointer (some ⟨Bj, 0, none⟩)] w fun r w' => r = .bool (s.u || (decide (s.r > 0) || decide (s.l ≥ j))) ∧ Up w w' := by
 have hW := Up.refl w
 obtain ⟨l, r, p, u⟩ := s
 cases hu
 refine cS (n := 17) (m := 9) func19 rfl rfl rfl ?_
 refine CW.S ?_
 refine LW.rr (.boxA (.t rfl)) rfl ?_
 rintro _ w1 ⟨B2, rfl, NB2⟩
 have eB2 := NB2.at_
 have zB2 := NB2.size
 replace hJ := hJ.up NB2.up
 replace hW := hW.up NB2.up
 have hB2 := NB2.blk
 refine LW.C (LW.S (CW.region ?_))
 refine LW.pp (.fA 3 underlying51 rfl sizeOf4 rfl) ?_
 refine LW.pp (.ld isAgg4 rfl (hB2.celln rfl)) ?_
 refine LW.M rfl ?_
 refine LW.Y ?_
 refine LW.pp (.la isAgg51 sizeOf51 rfl (hB2.agg)) ?_
 refine LW.Y ?_
 refine LW.K (eC (.o rfl) (en20)) rfl (busy_any _ _) ?_
 rintro _ w2 ⟨rfl, uw2⟩
 have zw2 := uw2.size
 replace hJ := hJ.up uw2
 replace hW := hW.up uw2
 replace hB2 := hB2.up uw2
 refine LW.pp (.pick_or (.t rfl) (fun hp => (by first | exact .const _ | exact .tmp rfl | exact .cond rfl (by first | assumption | simp_all)))) ?_
 refine LW.M rfl ?_
 refine LW.g rfl rfl rfl rfl rfl rfl rfl (fun hc => PEv.fA 0 underlying51 rfl sizeOf43 rfl) ?_
 refine LW.g rfl rfl rfl rfl rfl rfl rfl (fun hc => PEv.fieldAddr (off := 0) underlying43 rfl rfl sizeOf3 rfl vQ) ?_
 refine LW.g rfl rfl rfl rfl rfl rfl rfl (fun hc => PEv.load isAgg3 vQ (hB2.celln rfl)) ?_
 refine LW.g rfl rfl rfl rfl rfl rfl rfl (fun hc => PEv.ld isAgg3 rfl (hJ.celln rfl)) ?_
 refine LW.g rfl rfl rfl rfl rfl rfl rfl (fun hc => PEv.geq vQ vQ) ?_
 refine LW.pp (.pick_or (.t rfl) (fun hp => (by first | exact .const _ | exact .tmp rfl | exact .cond rfl (by first | assumption | simp_all)))) ?_
 refine LW.A rfl (LW.T (CW.ret ?_))
 refine KW.ret1 rfl rfl ⟨_, rfl, ?_⟩
 exact ⟨by simp, hW⟩
theorem cmd1_any (s : Sit) (Bj : Nat) (j : Int) (w : World) (hJ : Blk w Bj #[vi j] 3) : Ret Try.prog 19 #[.agg s.cells, .pointer (some ⟨Bj, 0, none⟩)] w fun r w' => r = .bool (s.u || (decide (s.r > 0) || decide (s.l ≥ j))) ∧ Up w w' := by
 cases hu : s.u with
 | true => have := cmd1T s hu Bj j w hJ; rwa [hu] at this
 | false => have := cmd1F s hu Bj j w hJ; rwa [hu] at this
theorem keep1_any (cf : Nat) (lb : Array Go.Value) (p : Wd → Bool) (hen : ∀ args w, (callFunc cf args).run Try.prog w = .ok (.enter cf args) w) (s : Sit) (Bf : Nat) (tf : TypeId) (w : World) (hF : Blk w Bf #[.func (.func cf) #[] lb] tf) (hp : ∀ W, Up w W → Ret Try.prog cf (#[.agg s.w.cells] ++ lb) W fun r W' => r = .bool (p s.w) ∧ Up W W') : Ret Try.prog 39 #[.agg s.cells, .agg #[], .pointer (some ⟨Bf, 0, none⟩)] w fun r w' => r = .bool (!p s.w) ∧ Up w w' := by
 have hW := Up.refl w
 refine cS (n := 11) (m := 9) func39 rfl rfl rfl ?_
 refine CW.S ?_
 refine LW.rr (.boxA (.t rfl)) rfl ?_
 rintro _ w1 ⟨B3, rfl, NB3⟩
 have eB3 := NB3.at_
 have zB3 := NB3.size
 replace hF := hF.up NB3.up
 replace hW := hW.up NB3.up
 have hB3 := NB3.blk
 refine LW.rr (.boxA (.t rfl)) rfl ?_
 rintro _ w2 ⟨B4, rfl, NB4⟩
 have eB4 := NB4.at_
 have zB4 := NB4.size
 replace hF := hF.up NB4.up
 replace hW := hW.up NB4.up
 replace hB3 := hB3.up NB4.up
 have hB4 := NB4.blk
 refine LW.C (LW.S (CW.region ?_))
 refine LW.pp (.ld isAgg66 rfl (hF.celln rfl)) ?_
 refine LW.pp (.fA 0 underlying51 rfl sizeOf43 rfl) ?_
 refine LW.pp (.la isAgg43 sizeOf43 rfl (hB3.agg.sitW)) ?_
 refine LW.K (enter_call (.t rfl) (.cons (.t rfl) .nil) (hen)) rfl (hp _ hW) ?_
 rintro _ w3 ⟨rfl, uw3⟩
 have zw3 := uw3.size
 replace hF := hF.up uw3
 replace hW := hW.up uw3
 replace hB3 := hB3.up uw3
 replace hB4 := hB4.up uw3
 refine LW.pp (.not (.t rfl)) ?_
 refine LW.A rfl (LW.T (CW.ret ?_))
 refine KW.ret1 rfl rfl ⟨_, rfl, ?_⟩
 exact ⟨rfl, hW⟩
end Go.Proofs.Ytpofdidofjlkhaa
end
section
namespace Go.Wx
def curS (g : Sit → Bool) (L V : List Sit) : List Sit := L.filter fun k => g k || !decide (k ∈ V)
theorem curS_nil (g : Sit → Bool) (L : List Sit) : curS g L [] = L := List.filter_eq_self.2 fun k _ => by simp
theorem curS_yes {g : Sit → Bool} (L V : List Sit) {k : Sit} (h : g k = true) : curS g L (V ++ [k]) = curS g L V := by
 refine List.filter_congr fun x _ => ?_
 by_cases e : x = k
 · rw [e, h]; rfl
 simp [e]
theorem curS_no {g : Sit → Bool} (L V : List Sit) {k : Sit} (h : g k = false) : (curS g L (V ++ [k])).map unS = ((curS g L V).map unS).filter fun p => !decide (p.1 = k) := by
 rw [List.filter_map, curS, curS, List.filter_filter]
 congr 1
 refine List.filter_congr fun x _ => ?_
 by_cases e : x = k
 · simp [e, h, unS]
 simp [e, unS]
theorem fiS_yes {g : Sit → Bool} (V : List Sit) {k : Sit} (h : g k = true) : (V ++ [k]).filter g = V.filter g ++ [k] := by rw [List.filter_append]; simp [h]
theorem fiS_no {g : Sit → Bool} (V : List Sit) {k : Sit} (h : g k = false) : (V ++ [k]).filter g = V.filter g := by rw [List.filter_append]; simp [h]
theorem curS_fresh {g : Sit → Bool} {L V : List Sit} {k : Sit} (h : k ∈ curS g L V) (hf : k ∉ V.filter g) : k ∉ V ∧ k ∈ L := by
 obtain ⟨h1, h2⟩ := List.mem_filter.1 h
 refine ⟨fun hV => ?_, h1⟩
 cases hi : g k with
 | true => exact hf (List.mem_filter.2 ⟨hV, hi⟩)
 | false => rw [hi] at h2; simp [hV] at h2
theorem curS_end {g : Sit → Bool} {L V : List Sit} (h : (V.filter g).Perm (((curS g L V).map unS).map (·.1))) : curS g L V = L.filter g := by
 rw [unS_keys] at h
 refine List.filter_congr fun k hk => ?_
 cases hi : g k with
 | true => rfl
 | false =>
   cases hc : decide (k ∈ V) with
   | true => rfl
   | false =>
     exfalso
     have h1 : k ∈ curS g L V := List.mem_filter.2 ⟨hk, by rw [hc]; simp⟩
     have := (List.mem_filter.1 (h.symm.subset h1)).2
     rw [hi] at this; cases this
end Go.Wx
namespace Go.Proofs.Ytpofdidofjlkhaa
open Go.Proofs.Try
open Go.Wx Go.RowKit
theorem delS_any (cf : Nat) (lb : Array Go.Value) (p : Sit → Bool) (hen : ∀ args w, (callFunc cf args).run Try.prog w = .ok (.enter cf args) w) (b : Nat) (L : List Sit) (w : World) (hM : Mk.IMap sitK w b (L.map unS)) (hp : ∀ W, Fr (· = b) w W → ∀ s, s ∈ L → Ret Try.prog cf (#[.agg s.cells, .agg #[]] ++ lb) W fun r W' => r = .bool (!p s) ∧ Up W W') : Ret Try.prog 38 #[.map (some b), .func (.func cf) #[] lb] w fun r w' => r = .tuple #[] ∧ Stp (Mk.aIMap sitK b ((L).map unS)) (Mk.aIMap sitK b ((L.filter p).map unS)) w w' := by
 obtain ⟨w0, rfl⟩ : ∃ w0, w0 = w := ⟨_, rfl⟩
 have hS : Wx.Sep (Mk.aIMap sitK b ((L).map unS)).foot w0 w0 [Mk.aIMap sitK b ((L).map unS)] := Sep.cons (A := Mk.aIMap sitK b ((L).map unS)) hM (fun _ h => h) (Sep.start _ _) (by simp)
 refine cS (n := 19) (m := 9) func38 rfl rfl rfl ?_
 refine CW.S (LW.M rfl ?_)
 refine LW.rr (Mk.REv.range (Q := sitK) underlying55 (.t rfl) (hS.get 0 rfl)) rfl ?_
 rintro _ w1 ⟨r7, rfl, hR_, uR, eR, zR⟩
 replace hS := hS.stp 0 rfl (Mk.stp_range hR_ uR eR)
 change Wx.Sep _ _ _ [_] at hS
 clear hR_
 refine LW.T (CW.block ?_)
 refine CW.loopB (σ := List Sit) (fun s w => (s.Nodup ∧ ∀ k ∈ s, k ∈ L) ∧ (Wx.Sep (Mk.aIMap sitK b ((L).map unS)).foot w0 w [Mk.aIRng sitK b r7 ((curS p L s).map unS) (s.filter p)])) (fun s => []) ([(0, .eq _), (1, .eq _), (7, .eq _)]) (fun s => L.length - s.length) [] ?_ ⟨rfl, rfl, rfl, trivial⟩ ?_
 ·exact ⟨⟨List.nodup_nil, fun _ h => (by cases h)⟩, by rw [curS_nil]; exact hS⟩
 rintro V w2 ⟨hV, hS⟩
 refine CW.S ?_
 refine LW.rr (Mk.REv.next (.t rfl) (hS.get 0 rfl)) rfl ?_
 rintro _ w3 (⟨rfl, rfl, hPm⟩ | ⟨k0, u0, rfl, hNx⟩)
 ·skip
  refine LW.pp (.extract (.t rfl) rfl) (LW.S ?_)
  refine CW.cond_false (.t rfl) ?_
  refine CW.exit (KW.then_exit (KW.then_exit (KW.block_hit ?_)))
  refine KW.end0 rfl ⟨_, rfl, ?_⟩
  rw [curS_end hPm] at hS
  have hS2 := hS.stp 0 rfl (Mk.stp_rngEnd (hS.get 0 rfl))
  exact ⟨rfl, hS2.fr, hS2.get 0 rfl, fun _ h => .inl h⟩
 skip
 have zw3 := hNx.size
 replace hS := hS.stp 0 rfl (Mk.stp_next hNx)
 change Wx.Sep _ _ _ [_] at hS
 obtain ⟨hk0c, hu0⟩ := unS_mem hNx.mem
 subst hu0
 obtain ⟨hk0V, hk0⟩ := curS_fresh hk0c hNx.fresh
 have hV2 : (V ++ [k0]).Nodup ∧ ∀ k ∈ V ++ [k0], k ∈ L := ⟨List.nodup_append.2 ⟨hV.1, by simp, fun a ha c hc => by simp at hc; subst hc; exact fun e => hk0V (e ▸ ha)⟩, fun k hk => (List.mem_append.1 hk).elim (hV.2 k) (fun h => by cases List.mem_singleton.1 h; exact hk0)⟩
 have hVl := hV2.1.length_le_of_subset hV2.2
 rw [List.length_append, List.length_singleton] at hVl
 refine LW.pp (.extract (.t rfl) rfl) (LW.S ?_)
 refine CW.cond_true (.t rfl) ?_
 refine CW.skip (KW.then (CW.block (CW.S ?_)))
 refine LW.rr (.entry (.t rfl) hNx.entry) rfl ?_
 rintro _ _ ⟨rfl, rfl⟩
 refine LW.pp (.extract (.t rfl) rfl) (LW.pp (.extract (.t rfl) rfl) ?_)
 refine LW.rr (.allocA zeroValue51) rfl ?_
 rintro _ w4 ⟨B4, rfl, NB4⟩
 have eB4 := NB4.at_
 have zB4 := NB4.size
 replace hS := hS.addB NB4
 change Wx.Sep _ _ _ [_, _] at hS
 refine LW.rr (.allocA zeroValue53) rfl ?_
 rintro _ w5 ⟨B5, rfl, NB5⟩
 have eB5 := NB5.at_
 have zB5 := NB5.size
 replace hS := hS.addB NB5
 change Wx.Sep _ _ _ [_, _, _] at hS
 refine LW.E (.storeA sizeOf51 rfl (.t rfl) (.t rfl) (Sit.one _) (hS.blk 1 rfl) rfl) ?_
 intro w6 Nw6
 have zw6 := Nw6.size
 replace hS := hS.putB 1 rfl Nw6
 change Wx.Sep _ _ _ [_, _, _] at hS
 refine LW.E (.storeA sizeOf53 rfl (.t rfl) (.t rfl) eQ (hS.blk 2 rfl) rfl) ?_
 intro w7 Nw7
 have zw7 := Nw7.size
 replace hS := hS.putB 2 rfl Nw7
 change Wx.Sep _ _ _ [_, _, _] at hS
 refine LW.S (CW.region (LW.M rfl ?_))
 refine LW.pp (.la isAgg51 sizeOf51 rfl ((hS.blk 1 rfl).agg)) ?_
 refine LW.pp (.la isAgg53 sizeOf53 rfl ((hS.blk 2 rfl).agg)) ?_
 refine LW.K (enter_call (.t rfl) (.cons (.t rfl) (.cons (.t rfl) .nil)) (hen)) rfl (hp _ hS.fr k0 hk0) ?_
 rintro _ w8 ⟨rfl, uw8⟩
 have zw8 := uw8.size
 replace hS := hS.up uw8
 refine LW.T ?_
 refine CW.cond (.t rfl) (fun h16 => ?_) (fun h16 => ?_)
 ·replace h16 := dQ h16
  have hid : p k0 = false := by simpa using h16
  refine CW.region (LW.M rfl ?_)
  refine LW.pp (.la isAgg51 sizeOf51 rfl ((hS.blk 1 rfl).agg)) ?_
  refine LW.rn (Mk.REv.deleteR (Q := sitK) underlying55 sitLaw (.t rfl) (.t rfl) (hS.get 0 rfl)) rfl rfl rfl ?_
  rintro _ w9 ⟨hR2, Kd, zd⟩
  replace hS := hS.stp 0 rfl (Mk.stp_rng hR2 Kd)
  change Wx.Sep _ _ _ [_, _, _] at hS
  clear hR2 Kd
  refine LW.nil (KW.inBlock (KW.round ?_))
  exact ⟨V ++ [k0], ⟨hV2, by first | (rw [curS_yes L V hid, fiS_yes V hid]; exact hS.take 1) | (rw [curS_no L V hid, fiS_no V hid]; exact hS.take 1)⟩, ⟨rfl, rfl, rfl, trivial⟩, by rw [List.length_append, List.length_singleton]; omega⟩
 replace h16 := dQ h16
 have hid : p k0 = true := by simpa using h16
 refine CW.skip (KW.inBlock (KW.round ?_))
 exact ⟨V ++ [k0], ⟨hV2, by first | (rw [curS_yes L V hid, fiS_yes V hid]; exact hS.take 1) | (rw [curS_no L V hid, fiS_no V hid]; exact hS.take 1)⟩, ⟨rfl, rfl, rfl, trivial⟩, by rw [List.length_append, List.length_singleton]; omega⟩
end Go.Proofs.Ytpofdidofjlkhaa
end
section
namespace Go.Wx
open Go.Wx.Mk
structure Bz where
 D : Nat
 b : Nat
 L : List Sit
 job : Int
 tool : Int
def Bz.bel (z : Bz) : Bel := ⟨(· ∈ z.L), z.job, z.tool⟩
theorem keep_no {b : Bel} {p : Wd → Bool} {o : Bool} {L : List Sit} (h : ∀ s, s ∈ L ↔ Cl b.job b.tool b.S s) (h0 : L.filter (fun s => p s.w) = []) : b.keep p o = (false, b) := if_neg fun ⟨s, hs, hp⟩ => by
 have : s ∈ L.filter fun s => p s.w := List.mem_filter.2 ⟨(h s).2 hs, hp⟩
 rw [h0] at this
 cases this
theorem keep_yes {b : Bel} {p : Wd → Bool} {o : Bool} {L : List Sit} (h : ∀ s, s ∈ L ↔ Cl b.job b.tool b.S s) (h0 : L.filter (fun s => p s.w) ≠ []) : b.keep p o = (true, b.kept p o) := by
 obtain ⟨s, hs⟩ := List.exists_mem_of_ne_nil _ h0
 obtain ⟨h1, h2⟩ := List.mem_filter.1 hs
 exact if_pos ⟨s, (h s).1 h1, h2⟩
theorem kept_is {b : Bel} {p : Wd → Bool} {o : Bool} {L M : List Sit} (h : ∀ s, s ∈ L ↔ Cl b.job b.tool b.S s) {f : Sit → Sit} (hf : f = fun s => if o then { s with u := false } else s) (hm : ∀ v, v ∈ M ↔ ∃ s ∈ L.filter (fun s => p s.w), f s = v) : (⟨(· ∈ M), b.job, b.tool⟩ : Bel) = b.kept p o := by
 subst hf
 unfold Bel.kept
 congr 1
 funext v
 refine propext ((hm v).trans ⟨fun ⟨s, hs, e⟩ => ?_, fun ⟨s, hs, e⟩ => ⟨s, List.mem_filter.2 ⟨(h s).2 hs.1, hs.2⟩, e⟩⟩)
 obtain ⟨h1, h2⟩ := List.mem_filter.1 hs
 exact ⟨s, ⟨(h s).1 h1, h2⟩, e⟩
theorem pass_is {b : Bel} {L : List Sit} (h : ∀ s, s ∈ L ↔ Cl b.job b.tool b.S s) : (⟨(· ∈ L), b.job, b.tool⟩ : Bel) = b.pass := by
 unfold Bel.pass Bel.cl
 congr 1
 funext s
 exact propext (h s)
theorem keep_false {b : Bel} {f : Wd → Bool} {o : Bool} (h : (b.keep f o).1 = false) : (b.keep f o).2 = b := by
 unfold Bel.keep at *
 split
 · rename_i h1; rw [if_pos h1] at h; cases h
 rfl
theorem cmd_no {b : Bel} {j t : Int} (h : j < 1 ∨ 1000000 < j ∨ t < 0 ∨ 60 ≤ t) : b.cmd j t = (270, b) := if_pos (by rcases h with h | h | h | h; exact .inl h; exact .inr (.inl h); exact .inr (.inr (.inl h)); exact .inr (.inr (.inr (.inl h))))
def cmdP (j : Int) (s : Sit) : Bool := s.u || (decide (s.r > 0) || decide (s.l ≥ j))
theorem cmd_no2 {L : List Sit} {j0 t0 j t : Int} (h : L.any (cmdP j) = true) : (⟨(· ∈ L), j0, t0⟩ : Bel).cmd j t = (270, ⟨(· ∈ L), j0, t0⟩) := by
 obtain ⟨s, hs, hp⟩ := List.any_eq_true.1 h
 refine if_pos (.inr (.inr (.inr (.inr ⟨s, hs, ?_⟩))))
 unfold cmdP at hp
 simp only [Bool.or_eq_true, decide_eq_true_eq] at hp
 exact hp
theorem cmd_yes {L M : List Sit} {j0 t0 j t : Int} (h1 : ¬ j < 1) (h2 : ¬ 1000000 < j) (h3 : ¬ t < 0) (h4 : ¬ 60 ≤ t) (h : L.any (cmdP j) = false) (hm : ∀ v, v ∈ M ↔ ∃ s ∈ L, { s with u := true } = v) : (⟨(· ∈ L), j0, t0⟩ : Bel).cmd j t = (0, ⟨(· ∈ M), j, t⟩) := by
 unfold Bel.cmd
 rw [if_neg]
 · congr 2
   funext v
   exact propext (hm v).symm
 rintro (e | e | e | e | ⟨s, hs, e⟩)
 · exact h1 e
 · exact h2 e
 · exact h3 e
 · exact h4 e
 have := List.any_eq_false.1 h s hs
 unfold cmdP at this
 simp only [Bool.or_eq_true, decide_eq_true_eq] at this
 exact this e
theorem unS_len {L : List Sit} (h : ((L.map unS).length : Int) = 0) : L = [] := by
 rw [List.length_map] at h
 exact List.eq_nil_of_length_eq_zero oQ
theorem unS_len2 {L : List Sit} (h : ¬ ((L.map unS).length : Int) = 0) : L ≠ [] := fun e => h (by rw [e]; rfl)
theorem filt_ok {L : List Sit} {p : Sit → Bool} (h : ∀ s ∈ L, s.ok) : ∀ s ∈ L.filter p, s.ok := fun s hs => h s (List.mem_filter.1 hs).1
theorem permK (k : Int) : (k = 1 ∨ k = 2 ∨ k = 3 ∨ k = 4 ∨ k = 5) ∨ (k ≠ 1 ∧ k ≠ 2 ∧ k ≠ 3 ∧ k ≠ 4 ∧ k ≠ 5) := by omega
theorem fitsK_no {k n : Int} (h : k ≠ 1 ∧ k ≠ 2 ∧ k ≠ 3 ∧ k ≠ 4 ∧ k ≠ 5) : fitsK k n = none := by
 obtain ⟨h1, h2, h3, h4, h5⟩ := h
 unfold fitsK
 rw [if_neg h1, if_neg h2, if_neg h3, if_neg h4, if_neg h5]
end Go.Wx
namespace Go.Proofs.Ytpofdidofjlkhaa
open Go.Proofs.Try
open Go.Wx Go.RowKit
def aBel (z : Bz) : Asr := ⟨fun i => i = z.D ∨ i = z.b, fun w => Blk w z.D (belC z.b z.job z.tool) 59 ∧ Mk.IMap sitK w z.b (z.L.map unS) ∧ z.b ≠ z.D, fun w w' h k hs => ⟨(aBlk z.D (belC z.b z.job z.tool) 59).keep w w' h.1 (fun i hi => k i (.inl hi)) hs, (Mk.aIMap sitK z.b (z.L.map unS)).keep w w' h.2.1 (fun i hi => k i (.inr hi)) hs, h.2.2⟩, fun w h i hi => hi.elim ((aBlk z.D (belC z.b z.job z.tool) 59).lt w h.1 i) ((Mk.aIMap sitK z.b (z.L.map unS)).lt w h.2.1 i)⟩
theorem stp_bel {D b b' : Nat} {L L' : List Sit} {job tool job' tool' : Int} {w w' : World} (hF : Fr (aBel ⟨D, b, L, job, tool⟩).foot w w') (hD : Blk w' D (belC b' job' tool') 59) (hM : Mk.IMap sitK w' b' (L'.map unS)) (hne : b' ≠ D) (hb : b' = b ∨ w.heap.size ≤ b') : Stp (aBel ⟨D, b, L, job, tool⟩) (aBel ⟨D, b', L', job', tool'⟩) w w' :=
 ⟨hF, ⟨hD, hM, hne⟩, fun i hi => hi.elim (fun e => .inl (.inl e)) (fun e => hb.elim (fun e2 => .inl (.inr (e.trans e2))) (fun e2 => .inr (by rw [e]; exact e2)))⟩
theorem bel_open {D b : Nat} {L : List Sit} {job tool : Int} {w : World} (hz : (aBel ⟨D, b, L, job, tool⟩).holds w) : Wx.Sep (aBel ⟨D, b, L, job, tool⟩).foot w w [aBlk D (belC b job tool) 59, Mk.aIMap sitK b (L.map unS)] :=
 Sep.cons (A := aBlk D (belC b job tool) 59) hz.1 (fun _ h => .inl h) (Sep.cons (A := Mk.aIMap sitK b (L.map unS)) hz.2.1 (fun _ h => .inr h) (Sep.start _ _) (by simp)) (by rintro A hA i h1 h2; rw [List.mem_singleton.1 hA] at h2; exact hz.2.2 (h2.symm.trans h1))
theorem Pass_any (D b : Nat) (L : List Sit) (job tool : Int) (w : World) (hz : (aBel ⟨D, b, L, job, tool⟩).holds w) (hL : L.length ≤ 1000000) (hj : inI job) (ht : inI tool) : Ret Try.prog 8 #[.pointer (some ⟨D, 0, none⟩)] w fun r w' => r = vi 0 ∧ ∃ z', z'.D = D ∧ z'.bel = (Bz.bel ⟨D, b, L, job, tool⟩).pass ∧ Stp (aBel ⟨D, b, L, job, tool⟩) (aBel z') w w' := by
 obtain ⟨w0, rfl⟩ : ∃ w0, w0 = w := ⟨_, rfl⟩
 have hS := bel_open hz
 refine cS (n := 10) (m := 9) func8 rfl rfl rfl ?_
 refine CW.S (LW.C (LW.S (CW.S (LW.M rfl ?_))))
 refine LW.pp (.fa (PEv.eqlNil underlying24 (.t rfl)) (rfl)) ?_
 refine LW.T ?_
 refine CW.cond_false (.t rfl) ?_
 refine CW.skip (KW.then (CW.S (LW.M rfl (LW.M rfl ?_))))
 refine LW.K (eC (.o rfl) (en23)) rfl (passed_any D b L job tool _ (hS.blk 0 rfl) (hS.get 1 rfl) hL hj ht) ?_
 rintro _ w1 ⟨bM, L2, rfl, hMn, hcl, zM, uw1⟩
 have zw1 := uw1.size
 replace hS := hS.add uw1 (A' := Mk.aIMap sitK bM (L2.map unS)) (hMn) (fun i (e : i = bM) => by rw [e]; exact zM)
 change Wx.Sep _ _ _ [_, _, _] at hS
 refine LW.pp (.nilCheck (.t rfl)) ?_
 refine LW.pp (.fA 0 underlying59 rfl sizeOf55 rfl) ?_
 refine LW.E (.store sizeOf55 (.t rfl) (.t rfl) rfl (hS.blk 0 rfl) (Nat.le_of_ble_eq_true rfl)) ?_
 intro w2 Nw2
 have zw2 := Nw2.size
 replace hS := hS.putB 0 rfl (show Set_ _ w2 _ (belC bM job tool) _ from Nw2)
 change Wx.Sep _ _ _ [_, _, _] at hS
 refine LW.S (CW.region (LW.C (LW.T (CW.ret ?_))))
 refine KW.ret1 rfl rfl ⟨_, rfl, ?_⟩
 exact ⟨rfl, ⟨D, bM, L2, job, tool⟩, rfl, pass_is (b := (Bz.bel ⟨D, b, L, job, tool⟩)) hcl, stp_bel hS.fr (hS.blk 0 rfl) (hS.get 2 rfl) (fun e => hS.ne (i := 0) (j := 2) cQ rfl rfl D rfl e.symm) (.inr oQ)⟩
theorem keep_any (cf : Nat) (lb : Array Go.Value) (p : Wd → Bool) (hen : ∀ args w, (callFunc cf args).run Try.prog w = .ok (.enter cf args) w) (o : Bool) (D b : Nat) (L : List Sit) (job tool : Int) (w : World) (hz : (aBel ⟨D, b, L, job, tool⟩).holds w) (hL : L.length ≤ 1000000) (hj : inI job) (ht : inI tool) (hp : ∀ W, Fr (aBel ⟨D, b, L, job, tool⟩).foot w W → ∀ x : Wd, Ret Try.prog cf (#[.agg x.cells] ++ lb) W fun r W' => r = .bool (p x) ∧ Up W W') : Ret Try.prog 24 #[.pointer (some ⟨D, 0, none⟩), .func (.func cf) #[] lb, .bool o] w fun r w' => r = .bool ((Bz.bel ⟨D, b, L, job, tool⟩).keep p o).1 ∧ ∃ z', z'.D = D ∧ z'.bel = ((Bz.bel ⟨D, b, L, job, tool⟩).keep p o).2 ∧ Stp (aBel ⟨D, b, L, job, tool⟩) (aBel z') w w' := by
 obtain ⟨w0, rfl⟩ : ∃ w0, w0 = w := ⟨_, rfl⟩
 have hS := bel_open hz
 refine cS (n := 22) (m := 9) func24 rfl rfl rfl ?_
 refine CW.S ?_
 refine LW.rr (.box1 (.t rfl) rfl) rfl ?_
 rintro _ w1 ⟨B4, rfl, NB4⟩
 have eB4 := NB4.at_
 have zB4 := NB4.size
 replace hS := hS.addB NB4
 change Wx.Sep _ _ _ [_, _, _] at hS
 refine LW.C (LW.S (CW.region (LW.M rfl ?_)))
 refine LW.K (eC (.o rfl) (en23)) rfl (passed_any D b L job tool _ (hS.blk 0 rfl) (hS.get 1 rfl) hL hj ht) ?_
 rintro _ w2 ⟨bM, L2, rfl, hMn, hcl, zM, uw2⟩
 have zw2 := uw2.size
 replace hS := hS.add uw2 (A' := Mk.aIMap sitK bM (L2.map unS)) (hMn) (fun i (e : i = bM) => by rw [e]; exact zM)
 change Wx.Sep _ _ _ [_, _, _, _] at hS
 refine LW.A rfl (LW.S (CW.region (LW.M rfl ?_)))
 refine LW.pp (.makeFunc (.cons (.t rfl) .nil)) ?_
 refine LW.K (eC (.u rfl rfl) (en38)) rfl (delS_any 39 _ (fun s => p s.w) en39 bM L2 _ (hS.get 3 rfl) (fun W hW s _ => keep1_any cf lb p hen s B4 66 W ((hS.blk 2 rfl).frz hW (fun e => hS.ne (i := 2) (j := 3) cQ rfl rfl B4 rfl e)) (fun W2 u => hp W2 ((hS.fr.next hW (fun i e => hS.foot 3 rfl i e)).trans (u.fr _)) s.w))) ?_
 rintro _ w3 ⟨rfl, uw3⟩
 have zw3 := uw3.fr.size
 replace hS := hS.stp 3 rfl uw3
 change Wx.Sep _ _ _ [_, _, _, _] at hS
 refine LW.S (CW.S (LW.M rfl ?_))
 refine LW.pp (Mk.PEv.lenM underlying55 (.t rfl) (hS.get 3 rfl)) ?_
 refine LW.pp (.eql (.t rfl) (.const _)) ?_
 refine LW.T ?_
 refine CW.cond (.t rfl) (fun h16 => ?_) (fun h16 => ?_)
 ·replace h16 := dQ h16
  have h0 := unS_len h16
  refine CW.S (LW.C (LW.T (CW.ret (KW.then_ret ?_))))
  refine KW.ret1 rfl rfl ⟨_, rfl, ?_⟩
  first | exact ⟨by rw [keep_no (b := (Bz.bel ⟨D, b, L, job, tool⟩)) hcl h0], ⟨D, b, L, job, tool⟩, rfl, by rw [keep_no (b := (Bz.bel ⟨D, b, L, job, tool⟩)) hcl h0], stp_bel hS.fr (hS.blk 0 rfl) (hS.get 1 rfl) hz.2.2 (.inl rfl)⟩ | exact ⟨by rw [keep_yes (b := (Bz.bel ⟨D, b, L, job, tool⟩)) hcl h0], ⟨D, b2, L4, job, tool⟩, rfl, by rw [keep_yes (b := (Bz.bel ⟨D, b, L, job, tool⟩)) hcl h0]; exact kept_is (b := (Bz.bel ⟨D, b, L, job, tool⟩)) hcl (by first | rw [hovT]; rfl | rw [hovF]; rfl) hmem, stp_bel hF3 hD2 hM2 (fun e => by have hDl : D < w0.heap.size := hz.1.lt; omega) (.inr oQ)⟩
 replace h16 := dQ h16
 have h0 := unS_len2 h16
 refine CW.skip (KW.then (CW.S ?_))
 refine LW.pp (.assign (.func _)) ?_
 refine LW.S (CW.S (LW.M rfl (LW.T ?_)))
 refine CW.cond (.t rfl) (fun h17 => ?_) (fun h17 => ?_)
 ·replace h17 := dQ h17
  have hovT : o = true := h17
  refine CW.region ?_
  refine LW.pp (.assign (.func _)) ?_
  refine LW.S (CW.region (LW.M rfl (LW.M rfl (LW.M rfl ?_))))
  refine LW.K (eC (.cons (.t rfl) (.cons (.t rfl) (.cons (.t rfl) .nil))) (en21)) rfl (set_any 41 #[] (fun s => { s with u := false }) en41 D bM b job tool _ _ (fun e => hS.ne (i := 0) (j := 3) cQ rfl rfl D rfl e.symm) (hS.blk 0 rfl) (hS.get 3 rfl) (fun W _ s _ => over_any s W) (fun s hs => filt_ok (IMap.okL hMn) s hs)) ?_
  rintro _ w4 ⟨b2, L4, rfl, hD2, hM2, hmem, zb2, hF2⟩
  have zF := hF2.size
  have hF3 := hS.fr.next hF2 (fun i hi => hi.elim (fun e => .inl (.inl e)) (fun e => (hS.foot 3 rfl i e)))
  refine LW.S (CW.region (LW.C (LW.T (CW.ret ?_))))
  refine KW.ret1 rfl rfl ⟨_, rfl, ?_⟩
  first | exact ⟨by rw [keep_no (b := (Bz.bel ⟨D, b, L, job, tool⟩)) hcl h0], ⟨D, b, L, job, tool⟩, rfl, by rw [keep_no (b := (Bz.bel ⟨D, b, L, job, tool⟩)) hcl h0], stp_bel hS.fr (hS.blk 0 rfl) (hS.get 1 rfl) hz.2.2 (.inl rfl)⟩ | exact ⟨by rw [keep_yes (b := (Bz.bel ⟨D, b, L, job, tool⟩)) hcl h0], ⟨D, b2, L4, job, tool⟩, rfl, by rw [keep_yes (b := (Bz.bel ⟨D, b, L, job, tool⟩)) hcl h0]; exact kept_is (b := (Bz.bel ⟨D, b, L, job, tool⟩)) hcl (by first | rw [hovT]; rfl | rw [hovF]; rfl) hmem, stp_bel hF3 hD2 hM2 (fun e => by have hDl : D < w0.heap.size := hz.1.lt; omega) (.inr oQ)⟩
 replace h17 := dQ h17
 have hovF : o = false := h17
 refine CW.skip (KW.then (CW.S (LW.M rfl (LW.M rfl (LW.M rfl ?_)))))
 refine LW.K (eC (.cons (.t rfl) (.cons (.t rfl) (.cons (.t rfl) .nil))) (en21)) rfl (set_any 40 #[] (fun s => s) en40 D bM b job tool _ _ (fun e => hS.ne (i := 0) (j := 3) cQ rfl rfl D rfl e.symm) (hS.blk 0 rfl) (hS.get 3 rfl) (fun W _ s _ => as_any s W) (fun s hs => filt_ok (IMap.okL hMn) s hs)) ?_
 rintro _ w5 ⟨b2, L4, rfl, hD2, hM2, hmem, zb2, hF2⟩
 have zF := hF2.size
 have hF3 := hS.fr.next hF2 (fun i hi => hi.elim (fun e => .inl (.inl e)) (fun e => (hS.foot 3 rfl i e)))
 refine LW.S (CW.region (LW.C (LW.T (CW.ret ?_))))
 refine KW.ret1 rfl rfl ⟨_, rfl, ?_⟩
 first | exact ⟨by rw [keep_no (b := (Bz.bel ⟨D, b, L, job, tool⟩)) hcl h0], ⟨D, b, L, job, tool⟩, rfl, by rw [keep_no (b := (Bz.bel ⟨D, b, L, job, tool⟩)) hcl h0], stp_bel hS.fr (hS.blk 0 rfl) (hS.get 1 rfl) hz.2.2 (.inl rfl)⟩ | exact ⟨by rw [keep_yes (b := (Bz.bel ⟨D, b, L, job, tool⟩)) hcl h0], ⟨D, b2, L4, job, tool⟩, rfl, by rw [keep_yes (b := (Bz.bel ⟨D, b, L, job, tool⟩)) hcl h0]; exact kept_is (b := (Bz.bel ⟨D, b, L, job, tool⟩)) hcl (by first | rw [hovT]; rfl | rw [hovF]; rfl) hmem, stp_bel hF3 hD2 hM2 (fun e => by have hDl : D < w0.heap.size := hz.1.lt; omega) (.inr oQ)⟩
theorem Restart_any (t : Int) (D b : Nat) (L : List Sit) (job tool : Int) (w : World) (hz : (aBel ⟨D, b, L, job, tool⟩).holds w) (hL : L.length ≤ 1000000) (hj : inI job) (ht : inI tool) : Ret Try.prog 9 #[.pointer (some ⟨D, 0, none⟩), vi t] w fun r w' => r = vi 0 ∧ ∃ z', z'.D = D ∧ z'.bel = (Bz.bel ⟨D, b, L, job, tool⟩).restart t ∧ Stp (aBel ⟨D, b, L, job, tool⟩) (aBel z') w w' := by
 obtain ⟨w0, rfl⟩ : ∃ w0, w0 = w := ⟨_, rfl⟩
 have hS : Wx.Sep (aBel ⟨D, b, L, job, tool⟩).foot w0 w0 [aBel ⟨D, b, L, job, tool⟩] := Sep.cons (A := aBel ⟨D, b, L, job, tool⟩) hz (fun _ h => h) (Sep.start _ _) (by simp)
 refine cS (n := 17) (m := 9) func9 rfl rfl rfl ?_
 refine CW.S ?_
 refine LW.rr (.box1 (.t rfl) rfl) rfl ?_
 rintro _ w1 ⟨B3, rfl, NB3⟩
 have eB3 := NB3.at_
 have zB3 := NB3.size
 replace hS := hS.addB NB3
 change Wx.Sep _ _ _ [_, _] at hS
 refine LW.C (LW.S (CW.S (LW.M rfl ?_)))
 refine LW.pp (.fa (PEv.eqlNil underlying24 (.t rfl)) (rfl)) ?_
 refine LW.T ?_
 refine CW.cond_false (.t rfl) ?_
 refine CW.skip (KW.then (CW.seq ?_))
 refine CW.draws_then 9 kQ kQ kQ kQ kQ rfl rfl ?_
 refine HW.pp (.move (.t rfl)) ?_
 refine HW.pp (.makeFunc (.cons (.t rfl) .nil)) ?_
 refine HW.pp (.move (.t rfl)) ?_
 refine HW.pp (.nilCheck (.t rfl)) ?_
 refine HW.pp (.fA 1 underlying59 rfl sizeOf57 rfl) ?_
 refine HW.pp (.fA 1 underlying57 rfl sizeOf3 rfl) ?_
 refine HW.pp (.ld isAgg3 rfl ((hS.get 0 rfl).1.celln rfl)) ?_
 refine HW.pp (.ld isAgg3 rfl ((hS.blk 1 rfl).celln rfl)) ?_
 refine HW.pp (.eql (.t rfl) (.t rfl)) ?_
 refine HW.nil ?_
 intro w2 uw2
 have zw2 := uw2.size
 replace hS := hS.up uw2
 refine LW.K (eC (.cons (.t rfl) (.cons (.t rfl) (.cons (.t rfl) .nil))) (en24)) rfl (keep_any 25 _ (fitsR t) en25 (decide (tool = t)) D b L job tool _ (hS.get 0 rfl) hL hj ht (fun W hW x => rst1_any x B3 t W ((hS.blk 1 rfl).frz hW (fun h => hS.ne (i := 0) (j := 1) cQ rfl rfl B3 h rfl)))) ?_
 rintro _ w3 ⟨rfl, z2, hzD, hzb, uw3⟩
 have zw3 := uw3.fr.size
 replace hS := hS.stp 0 rfl uw3
 change Wx.Sep _ _ _ [_, _] at hS
 refine LW.S (CW.region (LW.C (LW.T (CW.ret ?_))))
 refine KW.ret1 rfl rfl ⟨_, rfl, ?_⟩
 exact ⟨rfl, z2, hzD, hzb, hS.fr, hS.get 0 rfl, fun i hi => hS.foot 0 rfl i hi⟩
end Go.Proofs.Ytpofdidofjlkhaa
end
section
namespace Go.Wx
open Go.Wx.Mk
theorem report_none {b : Bel} {k n : Int} (h : fitsK k n = none) : b.report k n = (270, b) := by unfold Bel.report; rw [h]
theorem report_false {b : Bel} {k n : Int} {p : Wd → Bool} (h : fitsK k n = some p) (hk : (b.keep p (!decide (k = 5) && decide (n = b.job))).1 = false) : b.report k n = (270, b) := by
 unfold Bel.report
 rw [h]
 dsimp only
 rw [hk]
 rfl
theorem report_true {b : Bel} {k n : Int} {p : Wd → Bool} (h : fitsK k n = some p) (hk : (b.keep p (!decide (k = 5) && decide (n = b.job))).1 = true) : b.report k n = (0, (b.keep p (!decide (k = 5) && decide (n = b.job))).2) := by
 unfold Bel.report
 rw [h]
 dsimp only
 rw [hk]
 rfl
end Go.Wx
namespace Go.Proofs.Ytpofdidofjlkhaa
open Go.Proofs.Try
open Go.Wx Go.RowKit
theorem permits_any (k n : Int) (w : World) : Ret Try.prog 26 #[.agg #[vi k, vi n]] w fun r w' => (fitsK k n = none ∧ r = .tuple #[.nilFunc, .bool false] ∧ Up w w') ∨ (∃ cf B p, fitsK k n = some p ∧ r = .tuple #[.func (.func cf) #[] #[.pointer (some ⟨B, 0, none⟩)], .bool true] ∧ Blk w' B #[vi k, vi n] 37 ∧ (∀ args w, (callFunc cf args).run Try.prog w = .ok (.enter cf args) w) ∧ (∀ W (x : Wd), Blk W B #[vi k, vi n] 37 → Ret Try.prog cf #[.agg x.cells, .pointer (some ⟨B, 0, none⟩)] W fun r W' => r = .bool (p x) ∧ Up W W') ∧ w.heap.size ≤ B ∧ Up w w') := by
 have hW := Up.refl w
 refine cS (n := 21) (m := 9) func26 rfl rfl rfl ?_
 refine CW.S ?_
 refine LW.rr (.boxA (.t rfl)) rfl ?_
 rintro _ w1 ⟨B1, rfl, NB1⟩
 have eB1 := NB1.at_
 have zB1 := NB1.size
 replace hW := hW.up NB1.up
 have hB1 := NB1.blk
 refine LW.C (LW.C (LW.S (CW.region ?_)))
 refine LW.r REv.makeMap rfl rfl rfl rfl ?_
 rintro _ w2 ⟨B7, rfl, MB7, uB7, eB7, zB7⟩
 replace hW := hW.up uB7
 replace hB1 := hB1.up uB7
 have hM7 := MB7
 refine LW.pp (.makeFunc (.cons (.t rfl) .nil)) ?_
 refine LW.E (.insert (k := 1) (v := .func (.func 42) #[] #[.pointer (some ⟨B1, 0, none⟩)]) underlying82 underlying3 (.t rfl) (.const _) (.t rfl) hM7) ?_
 rintro w3 ⟨Mw3, Kw3, zw3⟩
 replace hM7 : IMap w3 B7 [(1, .func (.func 42) #[] #[.pointer (some ⟨B1, 0, none⟩)])] := Mw3
 replace hB1 := hB1.sto Kw3 oQ
 replace hW := hW.sto Kw3 oQ
 refine LW.pp (.makeFunc (.cons (.t rfl) .nil)) ?_
 refine LW.E (.insert (k := 2) (v := .func (.func 43) #[] #[.pointer (some ⟨B1, 0, none⟩)]) underlying82 underlying3 (.t rfl) (.const _) (.t rfl) hM7) ?_
 rintro w4 ⟨Mw4, Kw4, zw4⟩
 replace hM7 : IMap w4 B7 [(1, .func (.func 42) #[] #[.pointer (some ⟨B1, 0, none⟩)]), (2, .func (.func 43) #[] #[.pointer (some ⟨B1, 0, none⟩)])] := Mw4
 replace hB1 := hB1.sto Kw4 oQ
 replace hW := hW.sto Kw4 oQ
 refine LW.pp (.makeFunc (.cons (.t rfl) .nil)) ?_
 refine LW.E (.insert (k := 4) (v := .func (.func 44) #[] #[.pointer (some ⟨B1, 0, none⟩)]) underlying82 underlying3 (.t rfl) (.const _) (.t rfl) hM7) ?_
 rintro w5 ⟨Mw5, Kw5, zw5⟩
 replace hM7 : IMap w5 B7 [(1, .func (.func 42) #[] #[.pointer (some ⟨B1, 0, none⟩)]), (2, .func (.func 43) #[] #[.pointer (some ⟨B1, 0, none⟩)]), (4, .func (.func 44) #[] #[.pointer (some ⟨B1, 0, none⟩)])] := Mw5
 replace hB1 := hB1.sto Kw5 oQ
 replace hW := hW.sto Kw5 oQ
 refine LW.pp (.makeFunc (.cons (.t rfl) .nil)) ?_
 refine LW.E (.insert (k := 3) (v := .func (.func 45) #[] #[.pointer (some ⟨B1, 0, none⟩)]) underlying82 underlying3 (.t rfl) (.const _) (.t rfl) hM7) ?_
 rintro w6 ⟨Mw6, Kw6, zw6⟩
 replace hM7 : IMap w6 B7 [(1, .func (.func 42) #[] #[.pointer (some ⟨B1, 0, none⟩)]), (2, .func (.func 43) #[] #[.pointer (some ⟨B1, 0, none⟩)]), (4, .func (.func 44) #[] #[.pointer (some ⟨B1, 0, none⟩)]), (3, .func (.func 45) #[] #[.pointer (some ⟨B1, 0, none⟩)])] := Mw6
 replace hB1 := hB1.sto Kw6 oQ
 replace hW := hW.sto Kw6 oQ
 refine LW.pp (.makeFunc (.cons (.t rfl) .nil)) ?_
 refine LW.E (.insert (k := 5) (v := .func (.func 46) #[] #[.pointer (some ⟨B1, 0, none⟩)]) underlying82 underlying3 (.t rfl) (.const _) (.t rfl) hM7) ?_
 rintro w7 ⟨Mw7, Kw7, zw7⟩
 replace hM7 : IMap w7 B7 [(1, .func (.func 42) #[] #[.pointer (some ⟨B1, 0, none⟩)]), (2, .func (.func 43) #[] #[.pointer (some ⟨B1, 0, none⟩)]), (4, .func (.func 44) #[] #[.pointer (some ⟨B1, 0, none⟩)]), (3, .func (.func 45) #[] #[.pointer (some ⟨B1, 0, none⟩)]), (5, .func (.func 46) #[] #[.pointer (some ⟨B1, 0, none⟩)])] := Mw7
 replace hB1 := hB1.sto Kw7 oQ
 replace hW := hW.sto Kw7 oQ
 refine LW.M rfl ?_
 refine LW.pp (.fA 0 underlying37 rfl sizeOf3 rfl) ?_
 refine LW.pp (.ld isAgg3 rfl (hB1.celln rfl)) ?_
 rcases permK k with (rfl | rfl | rfl | rfl | rfl) | hkn
 ·skip
  refine LW.pp (.lookupYes (ok := true) (v := .func (.func 42) #[] #[.pointer (some ⟨B1, 0, none⟩)]) underlying82 underlying3 (.t rfl) (.t rfl) hM7 (by simp)) ?_
  refine LW.M rfl (LW.pp (.extract (.t rfl) rfl) (LW.pp (.extract (.t rfl) rfl) (LW.A rfl (LW.A rfl (LW.S (CW.region (LW.M rfl (LW.M rfl (LW.A rfl (LW.A rfl (LW.nil ?_)))))))))))
  refine KW.then (CW.ret ?_)
  refine KW.ret2 rfl rfl rfl ⟨_, rfl, ?_⟩
  first | exact .inl ⟨fitsK_no hkn, rfl, hW⟩ | exact .inr ⟨42, B1, _, rfl, rfl, hB1, en42, fun W x h => per1_any x W B1 _ n h, by omega, hW⟩ | exact .inr ⟨43, B1, _, rfl, rfl, hB1, en43, fun W x h => per2_any x W B1 _ n h, by omega, hW⟩ | exact .inr ⟨44, B1, _, rfl, rfl, hB1, en44, fun W x h => per3_any x W B1 _ n h, by omega, hW⟩ | exact .inr ⟨45, B1, _, rfl, rfl, hB1, en45, fun W x h => per4_any x W B1 _ n h, by omega, hW⟩ | exact .inr ⟨46, B1, _, rfl, rfl, hB1, en46, fun W x h => per5_any x W B1 _ n h, by omega, hW⟩
 ·skip
  refine LW.pp (.lookupYes (ok := true) (v := .func (.func 43) #[] #[.pointer (some ⟨B1, 0, none⟩)]) underlying82 underlying3 (.t rfl) (.t rfl) hM7 (by simp)) ?_
  refine LW.M rfl (LW.pp (.extract (.t rfl) rfl) (LW.pp (.extract (.t rfl) rfl) (LW.A rfl (LW.A rfl (LW.S (CW.region (LW.M rfl (LW.M rfl (LW.A rfl (LW.A rfl (LW.nil ?_)))))))))))
  refine KW.then (CW.ret ?_)
  refine KW.ret2 rfl rfl rfl ⟨_, rfl, ?_⟩
  first | exact .inl ⟨fitsK_no hkn, rfl, hW⟩ | exact .inr ⟨42, B1, _, rfl, rfl, hB1, en42, fun W x h => per1_any x W B1 _ n h, by omega, hW⟩ | exact .inr ⟨43, B1, _, rfl, rfl, hB1, en43, fun W x h => per2_any x W B1 _ n h, by omega, hW⟩ | exact .inr ⟨44, B1, _, rfl, rfl, hB1, en44, fun W x h => per3_any x W B1 _ n h, by omega, hW⟩ | exact .inr ⟨45, B1, _, rfl, rfl, hB1, en45, fun W x h => per4_any x W B1 _ n h, by omega, hW⟩ | exact .inr ⟨46, B1, _, rfl, rfl, hB1, en46, fun W x h => per5_any x W B1 _ n h, by omega, hW⟩
 ·skip
  refine LW.pp (.lookupYes (ok := true) (v := .func (.func 45) #[] #[.pointer (some ⟨B1, 0, none⟩)]) underlying82 underlying3 (.t rfl) (.t rfl) hM7 (by simp)) ?_
  refine LW.M rfl (LW.pp (.extract (.t rfl) rfl) (LW.pp (.extract (.t rfl) rfl) (LW.A rfl (LW.A rfl (LW.S (CW.region (LW.M rfl (LW.M rfl (LW.A rfl (LW.A rfl (LW.nil ?_)))))))))))
  refine KW.then (CW.ret ?_)
  refine KW.ret2 rfl rfl rfl ⟨_, rfl, ?_⟩
  first | exact .inl ⟨fitsK_no hkn, rfl, hW⟩ | exact .inr ⟨42, B1, _, rfl, rfl, hB1, en42, fun W x h => per1_any x W B1 _ n h, by omega, hW⟩ | exact .inr ⟨43, B1, _, rfl, rfl, hB1, en43, fun W x h => per2_any x W B1 _ n h, by omega, hW⟩ | exact .inr ⟨44, B1, _, rfl, rfl, hB1, en44, fun W x h => per3_any x W B1 _ n h, by omega, hW⟩ | exact .inr ⟨45, B1, _, rfl, rfl, hB1, en45, fun W x h => per4_any x W B1 _ n h, by omega, hW⟩ | exact .inr ⟨46, B1, _, rfl, rfl, hB1, en46, fun W x h => per5_any x W B1 _ n h, by omega, hW⟩
 ·skip
  refine LW.pp (.lookupYes (ok := true) (v := .func (.func 44) #[] #[.pointer (some ⟨B1, 0, none⟩)]) underlying82 underlying3 (.t rfl) (.t rfl) hM7 (by simp)) ?_
  refine LW.M rfl (LW.pp (.extract (.t rfl) rfl) (LW.pp (.extract (.t rfl) rfl) (LW.A rfl (LW.A rfl (LW.S (CW.region (LW.M rfl (LW.M rfl (LW.A rfl (LW.A rfl (LW.nil ?_)))))))))))
  refine KW.then (CW.ret ?_)
  refine KW.ret2 rfl rfl rfl ⟨_, rfl, ?_⟩
  first | exact .inl ⟨fitsK_no hkn, rfl, hW⟩ | exact .inr ⟨42, B1, _, rfl, rfl, hB1, en42, fun W x h => per1_any x W B1 _ n h, by omega, hW⟩ | exact .inr ⟨43, B1, _, rfl, rfl, hB1, en43, fun W x h => per2_any x W B1 _ n h, by omega, hW⟩ | exact .inr ⟨44, B1, _, rfl, rfl, hB1, en44, fun W x h => per3_any x W B1 _ n h, by omega, hW⟩ | exact .inr ⟨45, B1, _, rfl, rfl, hB1, en45, fun W x h => per4_any x W B1 _ n h, by omega, hW⟩ | exact .inr ⟨46, B1, _, rfl, rfl, hB1, en46, fun W x h => per5_any x W B1 _ n h, by omega, hW⟩
 ·skip
  refine LW.pp (.lookupYes (ok := true) (v := .func (.func 46) #[] #[.pointer (some ⟨B1, 0, none⟩)]) underlying82 underlying3 (.t rfl) (.t rfl) hM7 (by simp)) ?_
  refine LW.M rfl (LW.pp (.extract (.t rfl) rfl) (LW.pp (.extract (.t rfl) rfl) (LW.A rfl (LW.A rfl (LW.S (CW.region (LW.M rfl (LW.M rfl (LW.A rfl (LW.A rfl (LW.nil ?_)))))))))))
  refine KW.then (CW.ret ?_)
  refine KW.ret2 rfl rfl rfl ⟨_, rfl, ?_⟩
  first | exact .inl ⟨fitsK_no hkn, rfl, hW⟩ | exact .inr ⟨42, B1, _, rfl, rfl, hB1, en42, fun W x h => per1_any x W B1 _ n h, by omega, hW⟩ | exact .inr ⟨43, B1, _, rfl, rfl, hB1, en43, fun W x h => per2_any x W B1 _ n h, by omega, hW⟩ | exact .inr ⟨44, B1, _, rfl, rfl, hB1, en44, fun W x h => per3_any x W B1 _ n h, by omega, hW⟩ | exact .inr ⟨45, B1, _, rfl, rfl, hB1, en45, fun W x h => per4_any x W B1 _ n h, by omega, hW⟩ | exact .inr ⟨46, B1, _, rfl, rfl, hB1, en46, fun W x h => per5_any x W B1 _ n h, by omega, hW⟩
 skip
 refine LW.pp (.lookupNo (ok := true) underlying82 underlying3 zeroValue66 (.t rfl) (.t rfl) hM7 (by obtain ⟨h1, h2, h3, h4, h5⟩ := hkn; simp only [List.map_cons, List.map_nil, List.mem_cons, List.not_mem_nil, or_false]; omega)) ?_
 refine LW.M rfl (LW.pp (.extract (.t rfl) rfl) (LW.pp (.extract (.t rfl) rfl) (LW.A rfl (LW.A rfl (LW.S (CW.region (LW.M rfl (LW.M rfl (LW.A rfl (LW.A rfl (LW.nil ?_)))))))))))
 refine KW.then (CW.ret ?_)
 refine KW.ret2 rfl rfl rfl ⟨_, rfl, ?_⟩
 first | exact .inl ⟨fitsK_no hkn, rfl, hW⟩ | exact .inr ⟨42, B1, _, rfl, rfl, hB1, en42, fun W x h => per1_any x W B1 _ n h, by omega, hW⟩ | exact .inr ⟨43, B1, _, rfl, rfl, hB1, en43, fun W x h => per2_any x W B1 _ n h, by omega, hW⟩ | exact .inr ⟨44, B1, _, rfl, rfl, hB1, en44, fun W x h => per3_any x W B1 _ n h, by omega, hW⟩ | exact .inr ⟨45, B1, _, rfl, rfl, hB1, en45, fun W x h => per4_any x W B1 _ n h, by omega, hW⟩ | exact .inr ⟨46, B1, _, rfl, rfl, hB1, en46, fun W x h => per5_any x W B1 _ n h, by omega, hW⟩
theorem Report_any (k n : Int) (D b : Nat) (L : List Sit) (job tool : Int) (w : World) (hz : (aBel ⟨D, b, L, job, tool⟩).holds w) (hL : L.length ≤ 1000000) (hj : inI job) (ht : inI tool) : Ret Try.prog 10 #[.pointer (some ⟨D, 0, none⟩), .agg #[vi k, vi n]] w fun r w' => r = vi ((Bz.bel ⟨D, b, L, job, tool⟩).report k n).1 ∧ ∃ z', z'.D = D ∧ z'.bel = ((Bz.bel ⟨D, b, L, job, tool⟩).report k n).2 ∧ Stp (aBel ⟨D, b, L, job, tool⟩) (aBel z') w w' := by
 obtain ⟨w0, rfl⟩ : ∃ w0, w0 = w := ⟨_, rfl⟩
 have hS : Wx.Sep (aBel ⟨D, b, L, job, tool⟩).foot w0 w0 [aBel ⟨D, b, L, job, tool⟩] := Sep.cons (A := aBel ⟨D, b, L, job, tool⟩) hz (fun _ h => h) (Sep.start _ _) (by simp)
 refine cS (n := 35) (m := 9) func10 rfl rfl rfl ?_
 refine CW.S ?_
 refine LW.rr (.boxA (.t rfl)) rfl ?_
 rintro _ w1 ⟨B3, rfl, NB3⟩
 have eB3 := NB3.at_
 have zB3 := NB3.size
 replace hS := hS.addB NB3
 change Wx.Sep _ _ _ [_, _] at hS
 refine LW.C (LW.S (CW.S (LW.M rfl ?_)))
 refine LW.pp (.fa (PEv.eqlNil underlying24 (.t rfl)) (rfl)) ?_
 refine LW.T ?_
 refine CW.cond_false (.t rfl) ?_
 refine CW.skip (KW.then (CW.S ?_))
 refine LW.pp (.la isAgg37 sizeOf37 rfl ((hS.blk 1 rfl).agg)) ?_
 refine LW.K (eC (.o rfl) (en26)) rfl (permits_any k n _) ?_
 rintro _ w2 (⟨hno, rfl, uw2⟩ | ⟨cf, Bc, p, hsm, rfl, hBc, hen, hpc, zBc, uw2⟩)
 ·skip
  have zw2 := uw2.size
  replace hS := hS.up uw2
  refine LW.M rfl (LW.pp (.extract (.t rfl) rfl) ?_)
  refine LW.pp (.fa (PEv.extract (.t rfl) rfl) (rfl)) ?_
  refine LW.A rfl (LW.A rfl (LW.S (CW.seq ?_)))
  refine CW.draws_then 18 kQ kQ kQ kQ kQ rfl rfl ?_
  refine HW.pp (.move (.t rfl)) ?_
  refine HW.pp (.not (.t rfl)) ?_
  refine HW.pp (.move (.t rfl)) ?_
  refine HW.N ?_
  refine HW.N ?_
  refine HW.N ?_
  refine HW.N ?_
  refine HW.N ?_
  refine HW.N ?_
  refine HW.no' rfl rfl rfl rfl rfl ?_
  refine HW.no' rfl rfl rfl rfl rfl ?_
  refine HW.no' rfl rfl rfl rfl rfl ?_
  refine HW.no' rfl rfl rfl rfl rfl ?_
  refine HW.no' rfl rfl rfl rfl rfl ?_
  refine HW.no' rfl rfl rfl rfl rfl ?_
  refine HW.no' rfl rfl rfl rfl rfl ?_
  refine HW.no' rfl rfl rfl rfl rfl ?_
  refine HW.N ?_
  refine HW.nil ?_
  intro w3 uw3
  have zw3 := uw3.size
  replace hS := hS.up uw3
  skip
  refine LW.N ?_
  refine LW.N ?_
  refine LW.pp (.pick_or (b := false) (.t rfl) (fun hp => absurd (show true = false from hp) cQ)) ?_
  refine LW.T ?_
  refine CW.cond_true (.t rfl) ?_
  refine CW.S (LW.C (LW.T (CW.ret (KW.then_ret ?_))))
  refine KW.ret1 rfl rfl ⟨_, rfl, ?_⟩
  first | exact ⟨by rw [report_none hno], ⟨D, b, L, job, tool⟩, rfl, by rw [report_none hno], hS.fr, hS.get 0 rfl, fun i hi => hS.foot 0 rfl i hi⟩ | exact ⟨congrArg (fun q : Int × Bel => vi q.1) (report_false hsm (by have h := h34; simp at h; exact h)).symm, z2, hzD, hzb.trans ((keep_false (by have h := h34; simp at h; exact h)).trans (congrArg (fun q : Int × Bel => q.2) (report_false hsm (by have h := h34; simp at h; exact h)).symm)), hS.fr, hS.get 0 rfl, fun i hi => hS.foot 0 rfl i hi⟩ | exact ⟨congrArg (fun q : Int × Bel => vi q.1) (report_true hsm (by have h := h34; simp at h; exact h)).symm, z2, hzD, hzb.trans (congrArg (fun q : Int × Bel => q.2) (report_true hsm (by have h := h34; simp at h; exact h)).symm), hS.fr, hS.get 0 rfl, fun i hi => hS.foot 0 rfl i hi⟩
 skip
 have zw2 := uw2.size
 replace hS := hS.add uw2 (A' := aBlk Bc #[vi k, vi n] 37) hBc (fun i (e : i = Bc) => by rw [e]; exact zBc)
 change Wx.Sep _ _ _ [_, _, _] at hS
 refine LW.M rfl (LW.pp (.extract (.t rfl) rfl) ?_)
 refine LW.pp (.tr (PEv.extract (.t rfl) rfl) (rfl)) ?_
 refine LW.A rfl (LW.A rfl (LW.S (CW.seq ?_)))
 refine CW.draws_then 18 kQ kQ kQ kQ kQ rfl rfl ?_
 refine HW.pp (.move (.t rfl)) ?_
 refine HW.pp (.not (.t rfl)) ?_
 refine HW.pp (.move (.t rfl)) ?_
 refine HW.yy (.move (.t rfl)) ?_
 refine HW.yy (.move (.t rfl)) ?_
 refine HW.yy (.fA 0 underlying37 rfl sizeOf3 rfl) ?_
 refine HW.yy (.ld isAgg3 rfl ((hS.blk 1 rfl).celln rfl)) ?_
 refine HW.yy (.neq (.t rfl) (.const _)) ?_
 refine HW.yy (.move (.t rfl)) ?_
 refine HW.g rfl rfl rfl rfl rfl rfl (fun hc => PEv.fA 1 underlying37 rfl sizeOf3 rfl) ?_
 refine HW.g rfl rfl rfl rfl rfl rfl (fun hc => PEv.load isAgg3 vQ ((hS.blk 1 rfl).celln rfl)) ?_
 refine HW.g rfl rfl rfl rfl rfl rfl (fun hc => PEv.move (.t rfl)) ?_
 refine HW.g rfl rfl rfl rfl rfl rfl (fun hc => PEv.nilCheck vQ) ?_
 refine HW.g rfl rfl rfl rfl rfl rfl (fun hc => PEv.fieldAddr (off := 1) underlying59 rfl rfl sizeOf57 rfl vQ) ?_
 refine HW.g rfl rfl rfl rfl rfl rfl (fun hc => PEv.fieldAddr (off := 0) underlying57 rfl rfl sizeOf3 rfl vQ) ?_
 refine HW.g rfl rfl rfl rfl rfl rfl (fun hc => PEv.load isAgg3 vQ (((hS.get 0 rfl).1).celln rfl)) ?_
 refine HW.g rfl rfl rfl rfl rfl rfl (fun hc => PEv.eql vQ vQ) ?_
 refine HW.yy (.pick_and (.t rfl) (fun hp => (by first | exact .const _ | exact .tmp rfl | exact .cond rfl (by first | assumption | simp_all)))) ?_
 refine HW.nil ?_
 intro w4 uw4
 have zw4 := uw4.size
 replace hS := hS.up uw4
 skip
 refine LW.Y ?_
 refine LW.K (eC (.cons (.t rfl) (.cons (.t rfl) (.cons (.t rfl) .nil))) (en24)) rfl (keep_any cf _ p hen (!decide (k = 5) && decide (n = job)) D b L job tool _ (hS.get 0 rfl) hL hj ht (fun W hW x => hpc W x ((hS.blk 2 rfl).frz hW (fun h => hS.ne (i := 0) (j := 2) cQ rfl rfl Bc h rfl)))) ?_
 rintro _ w5 ⟨rfl, z2, hzD, hzb, uw5⟩
 have zw5 := uw5.fr.size
 replace hS := hS.stp 0 rfl uw5
 change Wx.Sep _ _ _ [_, _, _] at hS
 refine LW.Y ?_
 refine LW.pp (.not (.t rfl)) ?_
 refine LW.pp (.pick_or (.t rfl) (fun hp => (by first | exact .const _ | exact .tmp rfl | exact .cond rfl (by first | assumption | simp_all)))) ?_
 refine LW.T ?_
 refine CW.cond (.t rfl) (fun h34 => ?_) (fun h34 => ?_)
 ·replace h34 := dQ h34
  refine CW.S (LW.C (LW.T (CW.ret (KW.then_ret ?_))))
  refine KW.ret1 rfl rfl ⟨_, rfl, ?_⟩
  first | exact ⟨by rw [report_none hno], ⟨D, b, L, job, tool⟩, rfl, by rw [report_none hno], hS.fr, hS.get 0 rfl, fun i hi => hS.foot 0 rfl i hi⟩ | exact ⟨congrArg (fun q : Int × Bel => vi q.1) (report_false hsm (by have h := h34; simp at h; exact h)).symm, z2, hzD, hzb.trans ((keep_false (by have h := h34; simp at h; exact h)).trans (congrArg (fun q : Int × Bel => q.2) (report_false hsm (by have h := h34; simp at h; exact h)).symm)), hS.fr, hS.get 0 rfl, fun i hi => hS.foot 0 rfl i hi⟩ | exact ⟨congrArg (fun q : Int × Bel => vi q.1) (report_true hsm (by have h := h34; simp at h; exact h)).symm, z2, hzD, hzb.trans (congrArg (fun q : Int × Bel => q.2) (report_true hsm (by have h := h34; simp at h; exact h)).symm), hS.fr, hS.get 0 rfl, fun i hi => hS.foot 0 rfl i hi⟩
 replace h34 := dQ h34
 refine CW.skip (KW.then (CW.S (LW.C (LW.T (CW.ret ?_)))))
 refine KW.ret1 rfl rfl ⟨_, rfl, ?_⟩
 first | exact ⟨by rw [report_none hno], ⟨D, b, L, job, tool⟩, rfl, by rw [report_none hno], hS.fr, hS.get 0 rfl, fun i hi => hS.foot 0 rfl i hi⟩ | exact ⟨congrArg (fun q : Int × Bel => vi q.1) (report_false hsm (by have h := h34; simp at h; exact h)).symm, z2, hzD, hzb.trans ((keep_false (by have h := h34; simp at h; exact h)).trans (congrArg (fun q : Int × Bel => q.2) (report_false hsm (by have h := h34; simp at h; exact h)).symm)), hS.fr, hS.get 0 rfl, fun i hi => hS.foot 0 rfl i hi⟩ | exact ⟨congrArg (fun q : Int × Bel => vi q.1) (report_true hsm (by have h := h34; simp at h; exact h)).symm, z2, hzD, hzb.trans (congrArg (fun q : Int × Bel => q.2) (report_true hsm (by have h := h34; simp at h; exact h)).symm), hS.fr, hS.get 0 rfl, fun i hi => hS.foot 0 rfl i hi⟩
theorem Command_any (j t : Int) (D b : Nat) (L : List Sit) (job tool : Int) (w : World) (hz : (aBel ⟨D, b, L, job, tool⟩).holds w) (_hL : L.length ≤ 1000000) (_hj : inI job) (_ht : inI tool) : Ret Try.prog 7 #[.pointer (some ⟨D, 0, none⟩), vi j, vi t] w fun r w' => r = vi ((Bz.bel ⟨D, b, L, job, tool⟩).cmd j t).1 ∧ ∃ z', z'.D = D ∧ z'.bel = ((Bz.bel ⟨D, b, L, job, tool⟩).cmd j t).2 ∧ Stp (aBel ⟨D, b, L, job, tool⟩) (aBel z') w w' := by
 obtain ⟨w0, rfl⟩ : ∃ w0, w0 = w := ⟨_, rfl⟩
 have hS := bel_open hz
 refine cS (n := 38) (m := 9) func7 rfl rfl rfl ?_
 refine CW.S ?_
 refine LW.rr (.box1 (.t rfl) rfl) rfl ?_
 rintro _ w1 ⟨B4, rfl, NB4⟩
 have eB4 := NB4.at_
 have zB4 := NB4.size
 replace hS := hS.addB NB4
 change Wx.Sep _ _ _ [_, _, _] at hS
 refine LW.C (LW.S (CW.block (CW.S (LW.M rfl ?_))))
 refine LW.pp (.fa (PEv.eqlNil underlying24 (.t rfl)) (rfl)) ?_
 refine LW.A rfl (LW.T ?_)
 refine CW.cond_false (.t rfl) ?_
 refine CW.seq (CW.S ?_)
 refine LW.pp (.ld isAgg3 rfl ((hS.blk 2 rfl).celln rfl)) ?_
 refine LW.pp (.lss (.t rfl) (.const _)) ?_
 refine LW.A rfl (LW.T ?_)
 refine CW.cond (.t rfl) (fun h10 => ?_) (fun h10 => ?_)
 ·replace h10 := dQ h10
  refine CW.skip (KW.then ?_)
  refine CW.cond (.t rfl) (fun h10 => ?_) (fun h10 => ?_)
  ·replace h10 := dQ h10
   refine CW.S (LW.C (LW.T (CW.ret (KW.block_ret (KW.then_ret ?_)))))
   refine KW.ret1 rfl rfl ⟨_, rfl, ?_⟩
   first | exact ⟨by rw [cmd_no (by omega)], ⟨D, b, L, job, tool⟩, rfl, by rw [cmd_no (by omega)], stp_bel hS.fr (hS.blk 0 rfl) (hS.get 1 rfl) hz.2.2 (.inl rfl)⟩ | exact ⟨congrArg (fun q : Int × Bel => vi q.1) (cmd_no2 h19).symm, ⟨D, b, L, job, tool⟩, rfl, (congrArg (fun q : Int × Bel => q.2) (cmd_no2 (t := t) h19)).symm, stp_bel hS.fr (hS.blk 0 rfl) (hS.get 1 rfl) hz.2.2 (.inl rfl)⟩ | exact ⟨congrArg (fun q : Int × Bel => vi q.1) (cmd_yes oQ oQ oQ oQ h19 hmem).symm, ⟨D, b2, L4, j, t⟩, rfl, (congrArg (fun q : Int × Bel => q.2) (cmd_yes oQ oQ oQ oQ h19 hmem)).symm, stp_bel hF3 hD2 hM2 (fun e => by have hDl : D < w0.heap.size := hz.1.lt; omega) (.inr oQ)⟩
  replace h10 := dQ h10
  exfalso
  omega
 replace h10 := dQ h10
 refine CW.S ?_
 refine LW.pp (.ld isAgg3 rfl ((hS.blk 2 rfl).celln rfl)) ?_
 refine LW.pp (.gtr (.t rfl) (.const _)) ?_
 refine LW.A rfl (LW.T ?_)
 refine CW.cond (.t rfl) (fun h10 => ?_) (fun h10 => ?_)
 ·replace h10 := dQ h10
  refine CW.skip (KW.then ?_)
  refine CW.cond (.t rfl) (fun h10 => ?_) (fun h10 => ?_)
  ·replace h10 := dQ h10
   refine CW.S (LW.C (LW.T (CW.ret (KW.block_ret (KW.then_ret ?_)))))
   refine KW.ret1 rfl rfl ⟨_, rfl, ?_⟩
   first | exact ⟨by rw [cmd_no (by omega)], ⟨D, b, L, job, tool⟩, rfl, by rw [cmd_no (by omega)], stp_bel hS.fr (hS.blk 0 rfl) (hS.get 1 rfl) hz.2.2 (.inl rfl)⟩ | exact ⟨congrArg (fun q : Int × Bel => vi q.1) (cmd_no2 h19).symm, ⟨D, b, L, job, tool⟩, rfl, (congrArg (fun q : Int × Bel => q.2) (cmd_no2 (t := t) h19)).symm, stp_bel hS.fr (hS.blk 0 rfl) (hS.get 1 rfl) hz.2.2 (.inl rfl)⟩ | exact ⟨congrArg (fun q : Int × Bel => vi q.1) (cmd_yes oQ oQ oQ oQ h19 hmem).symm, ⟨D, b2, L4, j, t⟩, rfl, (congrArg (fun q : Int × Bel => q.2) (cmd_yes oQ oQ oQ oQ h19 hmem)).symm, stp_bel hF3 hD2 hM2 (fun e => by have hDl : D < w0.heap.size := hz.1.lt; omega) (.inr oQ)⟩
  replace h10 := dQ h10
  exfalso
  omega
 replace h10 := dQ h10
 refine CW.S (LW.M rfl ?_)
 refine LW.pp (.lss (.t rfl) (.const _)) ?_
 refine LW.A rfl (LW.T ?_)
 refine CW.cond (.t rfl) (fun h10 => ?_) (fun h10 => ?_)
 ·replace h10 := dQ h10
  refine CW.skip (KW.then ?_)
  refine CW.cond (.t rfl) (fun h10 => ?_) (fun h10 => ?_)
  ·replace h10 := dQ h10
   refine CW.S (LW.C (LW.T (CW.ret (KW.block_ret (KW.then_ret ?_)))))
   refine KW.ret1 rfl rfl ⟨_, rfl, ?_⟩
   first | exact ⟨by rw [cmd_no (by omega)], ⟨D, b, L, job, tool⟩, rfl, by rw [cmd_no (by omega)], stp_bel hS.fr (hS.blk 0 rfl) (hS.get 1 rfl) hz.2.2 (.inl rfl)⟩ | exact ⟨congrArg (fun q : Int × Bel => vi q.1) (cmd_no2 h19).symm, ⟨D, b, L, job, tool⟩, rfl, (congrArg (fun q : Int × Bel => q.2) (cmd_no2 (t := t) h19)).symm, stp_bel hS.fr (hS.blk 0 rfl) (hS.get 1 rfl) hz.2.2 (.inl rfl)⟩ | exact ⟨congrArg (fun q : Int × Bel => vi q.1) (cmd_yes oQ oQ oQ oQ h19 hmem).symm, ⟨D, b2, L4, j, t⟩, rfl, (congrArg (fun q : Int × Bel => q.2) (cmd_yes oQ oQ oQ oQ h19 hmem)).symm, stp_bel hF3 hD2 hM2 (fun e => by have hDl : D < w0.heap.size := hz.1.lt; omega) (.inr oQ)⟩
  replace h10 := dQ h10
  exfalso
  omega
 replace h10 := dQ h10
 refine CW.region (LW.M rfl ?_)
 refine LW.pp (.geq (.t rfl) (.const _)) ?_
 refine LW.A rfl (LW.T ?_)
 refine CW.cond (.t rfl) (fun h10 => ?_) (fun h10 => ?_)
 ·replace h10 := dQ h10
  refine CW.S (LW.C (LW.T (CW.ret (KW.block_ret (KW.then_ret ?_)))))
  refine KW.ret1 rfl rfl ⟨_, rfl, ?_⟩
  first | exact ⟨by rw [cmd_no (by omega)], ⟨D, b, L, job, tool⟩, rfl, by rw [cmd_no (by omega)], stp_bel hS.fr (hS.blk 0 rfl) (hS.get 1 rfl) hz.2.2 (.inl rfl)⟩ | exact ⟨congrArg (fun q : Int × Bel => vi q.1) (cmd_no2 h19).symm, ⟨D, b, L, job, tool⟩, rfl, (congrArg (fun q : Int × Bel => q.2) (cmd_no2 (t := t) h19)).symm, stp_bel hS.fr (hS.blk 0 rfl) (hS.get 1 rfl) hz.2.2 (.inl rfl)⟩ | exact ⟨congrArg (fun q : Int × Bel => vi q.1) (cmd_yes oQ oQ oQ oQ h19 hmem).symm, ⟨D, b2, L4, j, t⟩, rfl, (congrArg (fun q : Int × Bel => q.2) (cmd_yes oQ oQ oQ oQ h19 hmem)).symm, stp_bel hF3 hD2 hM2 (fun e => by have hDl : D < w0.heap.size := hz.1.lt; omega) (.inr oQ)⟩
 replace h10 := dQ h10
 refine CW.S (LW.M rfl ?_)
 refine LW.pp (.nilCheck (.t rfl)) ?_
 refine LW.pp (.fA 0 underlying59 rfl sizeOf55 rfl) ?_
 refine LW.pp (.ld isAgg55 rfl ((hS.blk 0 rfl).celln rfl)) ?_
 refine LW.pp (.makeFunc (.cons (.t rfl) .nil)) ?_
 refine LW.K (eC (.u rfl rfl) (en18)) rfl (has_any 19 _ (cmdP j) en19 b L _ (hS.get 1 rfl) (fun W hW s _ => cmd1_any s B4 j W ((hS.blk 2 rfl).frz hW (fun e => hS.ne (i := 1) (j := 2) cQ rfl rfl B4 e rfl)))) ?_
 rintro _ w2 ⟨rfl, uw2⟩
 have zw2 := uw2.fr.size
 replace hS := hS.stp 1 rfl uw2
 change Wx.Sep _ _ _ [_, _, _] at hS
 refine LW.A rfl (LW.T ?_)
 refine CW.cond (.t rfl) (fun h19 => ?_) (fun h19 => ?_)
 ·replace h19 := dQ h19
  refine CW.S (LW.C (LW.T (CW.ret (KW.block_ret (KW.then_ret ?_)))))
  refine KW.ret1 rfl rfl ⟨_, rfl, ?_⟩
  first | exact ⟨by rw [cmd_no (by omega)], ⟨D, b, L, job, tool⟩, rfl, by rw [cmd_no (by omega)], stp_bel hS.fr (hS.blk 0 rfl) (hS.get 1 rfl) hz.2.2 (.inl rfl)⟩ | exact ⟨congrArg (fun q : Int × Bel => vi q.1) (cmd_no2 h19).symm, ⟨D, b, L, job, tool⟩, rfl, (congrArg (fun q : Int × Bel => q.2) (cmd_no2 (t := t) h19)).symm, stp_bel hS.fr (hS.blk 0 rfl) (hS.get 1 rfl) hz.2.2 (.inl rfl)⟩ | exact ⟨congrArg (fun q : Int × Bel => vi q.1) (cmd_yes oQ oQ oQ oQ h19 hmem).symm, ⟨D, b2, L4, j, t⟩, rfl, (congrArg (fun q : Int × Bel => q.2) (cmd_yes oQ oQ oQ oQ h19 hmem)).symm, stp_bel hF3 hD2 hM2 (fun e => by have hDl : D < w0.heap.size := hz.1.lt; omega) (.inr oQ)⟩
 replace h19 := dQ h19
 refine CW.skip (KW.inBlock (KW.then (CW.S (LW.M rfl ?_))))
 refine LW.pp (.ld isAgg3 rfl ((hS.blk 2 rfl).celln rfl)) ?_
 refine LW.M rfl ?_
 refine LW.pp (.build (cs := #[vi j, vi t]) underlying57 zeroValue57 Try.places57 (.cons (.t rfl) (.cons (.t rfl) .nil)) rfl) ?_
 refine LW.pp (.nilCheck (.t rfl)) ?_
 refine LW.pp (.fA 1 underlying59 rfl sizeOf57 rfl) ?_
 refine LW.E (.storePart sizeOf57 rfl (.t rfl) (.t rfl) (by simp [Value.oneCell']) (hS.blk 0 rfl) (Nat.le_of_ble_eq_true rfl)) ?_
 intro w3 Nw3
 have zw3 := Nw3.size
 replace hS := hS.putB 0 rfl (show Set_ _ w3 _ (belC b j t) _ from Nw3)
 change Wx.Sep _ _ _ [_, _, _] at hS
 refine LW.S (CW.region (LW.M rfl (LW.M rfl ?_)))
 refine LW.pp (.nilCheck (.t rfl)) ?_
 refine LW.pp (.fA 0 underlying59 rfl sizeOf55 rfl) ?_
 refine LW.pp (.ld isAgg55 rfl ((hS.blk 0 rfl).celln rfl)) ?_
 refine LW.K (eC (.cons (.t rfl) (.cons (.t rfl) (.cons (.func _) .nil))) (en21)) rfl (set_any 22 #[] (fun s => { s with u := true }) en22 D b b j t L _ hz.2.2 (hS.blk 0 rfl) (hS.get 1 rfl) (fun W _ s _ => cmd2_any s W) (fun s hs => IMap.okL (hS.get 1 rfl) s hs)) ?_
 rintro _ w4 ⟨b2, L4, rfl, hD2, hM2, hmem, zb2, hF2⟩
 have zF := hF2.size
 have hF3 := hS.fr.next hF2 (fun i hi => hi.elim (fun e => .inl (.inl e)) (fun e => .inl (.inr e)))
 refine LW.S (CW.region (LW.C (LW.T (CW.ret ?_))))
 refine KW.ret1 rfl rfl ⟨_, rfl, ?_⟩
 first | exact ⟨by rw [cmd_no (by omega)], ⟨D, b, L, job, tool⟩, rfl, by rw [cmd_no (by omega)], stp_bel hS.fr (hS.blk 0 rfl) (hS.get 1 rfl) hz.2.2 (.inl rfl)⟩ | exact ⟨congrArg (fun q : Int × Bel => vi q.1) (cmd_no2 h19).symm, ⟨D, b, L, job, tool⟩, rfl, (congrArg (fun q : Int × Bel => q.2) (cmd_no2 (t := t) h19)).symm, stp_bel hS.fr (hS.blk 0 rfl) (hS.get 1 rfl) hz.2.2 (.inl rfl)⟩ | exact ⟨congrArg (fun q : Int × Bel => vi q.1) (cmd_yes oQ oQ oQ oQ h19 hmem).symm, ⟨D, b2, L4, j, t⟩, rfl, (congrArg (fun q : Int × Bel => q.2) (cmd_yes oQ oQ oQ oQ h19 hmem)).symm, stp_bel hF3 hD2 hM2 (fun e => by have hDl : D < w0.heap.size := hz.1.lt; omega) (.inr oQ)⟩
end Go.Proofs.Ytpofdidofjlkhaa
end
