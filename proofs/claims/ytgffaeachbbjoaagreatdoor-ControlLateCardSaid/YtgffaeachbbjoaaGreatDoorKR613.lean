import Derived.Test.YtgffaeachbbjoaaGreatDoorKR612
section
namespace Go.Wx
def ordK (k : Int) (f : Fact) : K2 := match k with
  | 4 => (f.Wafer, f.Time)
  | 5 => (f.Product, 0)
  | 8 => (f.Other, f.Parties)
  | 10 => (f.Recipe, f.Time)
  | _ => (f.ID, 0)
end Go.Wx
namespace Go.Proofs.YtgffaeachbbjoaaGreatDoor
open Go.Wx Go.RowKit
def listFn (k : Int) : Nat := match k with
  | 1 => 94
  | 2 => 96
  | 3 => 97
  | 4 => 98
  | 5 => 100
  | 6 => 102
  | 7 => 103
  | 8 => 104
  | 9 => 106
  | 10 => 107
  | 11 => 109
  | _ => 0
def ordFn (k : Int) : Nat := match k with
  | 1 => 95
  | 2 => 95
  | 3 => 95
  | 4 => 99
  | 5 => 101
  | 6 => 95
  | 7 => 95
  | 8 => 105
  | 9 => 95
  | 10 => 108
  | 11 => 95
  | _ => 0
def KdV (k : Int) : Go.Value := .agg #[.func (.func (listFn k)) #[] #[], .func (.func (ordFn k)) #[] #[]]
theorem list_1 (B : Nat) (w : World) : Ret Tryz.prog 94 #[.pointer (some ⟨B, 0, none⟩)] w fun r w' => r = .pointer (some ⟨B, 0, none⟩) ∧ Up w w' := by
  have hW := Up.refl w
  refine Calls_start (n := 6) (m := 9) Tryz.func94 rfl rfl rfl ?_
  refine CW.S (LW.C (LW.S (CW.region (LW.M rfl ?_))))
  refine LW.pp (PEv.nilCheck (.tmp rfl)) ?_
  refine LW.pp (PEv.fieldAddr (off := 0) Tryz.underlying24 rfl rfl Tryz.sizeOf22 rfl (.tmp rfl)) ?_
  refine LW.A rfl (LW.T (CW.ret ?_))
  refine KW.ret1 rfl rfl ⟨_, rfl, ?_⟩
  exact ⟨rfl, hW⟩
theorem list_2 (B : Nat) (w : World) : Ret Tryz.prog 96 #[.pointer (some ⟨B, 0, none⟩)] w fun r w' => r = .pointer (some ⟨B, 1, none⟩) ∧ Up w w' := by
  have hW := Up.refl w
  refine Calls_start (n := 6) (m := 9) Tryz.func96 rfl rfl rfl ?_
  refine CW.S (LW.C (LW.S (CW.region (LW.M rfl ?_))))
  refine LW.pp (PEv.nilCheck (.tmp rfl)) ?_
  refine LW.pp (PEv.fieldAddr (off := 1) Tryz.underlying24 rfl rfl Tryz.sizeOf22 rfl (.tmp rfl)) ?_
  refine LW.A rfl (LW.T (CW.ret ?_))
  refine KW.ret1 rfl rfl ⟨_, rfl, ?_⟩
  exact ⟨rfl, hW⟩
theorem list_3 (B : Nat) (w : World) : Ret Tryz.prog 97 #[.pointer (some ⟨B, 0, none⟩)] w fun r w' => r = .pointer (some ⟨B, 2, none⟩) ∧ Up w w' := by
  have hW := Up.refl w
  refine Calls_start (n := 6) (m := 9) Tryz.func97 rfl rfl rfl ?_
  refine CW.S (LW.C (LW.S (CW.region (LW.M rfl ?_))))
  refine LW.pp (PEv.nilCheck (.tmp rfl)) ?_
  refine LW.pp (PEv.fieldAddr (off := 2) Tryz.underlying24 rfl rfl Tryz.sizeOf22 rfl (.tmp rfl)) ?_
  refine LW.A rfl (LW.T (CW.ret ?_))
  refine KW.ret1 rfl rfl ⟨_, rfl, ?_⟩
  exact ⟨rfl, hW⟩
theorem list_4 (B : Nat) (w : World) : Ret Tryz.prog 98 #[.pointer (some ⟨B, 0, none⟩)] w fun r w' => r = .pointer (some ⟨B, 3, none⟩) ∧ Up w w' := by
  have hW := Up.refl w
  refine Calls_start (n := 6) (m := 9) Tryz.func98 rfl rfl rfl ?_
  refine CW.S (LW.C (LW.S (CW.region (LW.M rfl ?_))))
  refine LW.pp (PEv.nilCheck (.tmp rfl)) ?_
  refine LW.pp (PEv.fieldAddr (off := 3) Tryz.underlying24 rfl rfl Tryz.sizeOf22 rfl (.tmp rfl)) ?_
  refine LW.A rfl (LW.T (CW.ret ?_))
  refine KW.ret1 rfl rfl ⟨_, rfl, ?_⟩
  exact ⟨rfl, hW⟩
theorem list_5 (B : Nat) (w : World) : Ret Tryz.prog 100 #[.pointer (some ⟨B, 0, none⟩)] w fun r w' => r = .pointer (some ⟨B, 4, none⟩) ∧ Up w w' := by
  have hW := Up.refl w
  refine Calls_start (n := 6) (m := 9) Tryz.func100 rfl rfl rfl ?_
  refine CW.S (LW.C (LW.S (CW.region (LW.M rfl ?_))))
  refine LW.pp (PEv.nilCheck (.tmp rfl)) ?_
  refine LW.pp (PEv.fieldAddr (off := 4) Tryz.underlying24 rfl rfl Tryz.sizeOf22 rfl (.tmp rfl)) ?_
  refine LW.A rfl (LW.T (CW.ret ?_))
  refine KW.ret1 rfl rfl ⟨_, rfl, ?_⟩
  exact ⟨rfl, hW⟩
theorem list_6 (B : Nat) (w : World) : Ret Tryz.prog 102 #[.pointer (some ⟨B, 0, none⟩)] w fun r w' => r = .pointer (some ⟨B, 5, none⟩) ∧ Up w w' := by
  have hW := Up.refl w
  refine Calls_start (n := 6) (m := 9) Tryz.func102 rfl rfl rfl ?_
  refine CW.S (LW.C (LW.S (CW.region (LW.M rfl ?_))))
  refine LW.pp (PEv.nilCheck (.tmp rfl)) ?_
  refine LW.pp (PEv.fieldAddr (off := 5) Tryz.underlying24 rfl rfl Tryz.sizeOf22 rfl (.tmp rfl)) ?_
  refine LW.A rfl (LW.T (CW.ret ?_))
  refine KW.ret1 rfl rfl ⟨_, rfl, ?_⟩
  exact ⟨rfl, hW⟩
theorem list_7 (B : Nat) (w : World) : Ret Tryz.prog 103 #[.pointer (some ⟨B, 0, none⟩)] w fun r w' => r = .pointer (some ⟨B, 6, none⟩) ∧ Up w w' := by
  have hW := Up.refl w
  refine Calls_start (n := 6) (m := 9) Tryz.func103 rfl rfl rfl ?_
  refine CW.S (LW.C (LW.S (CW.region (LW.M rfl ?_))))
  refine LW.pp (PEv.nilCheck (.tmp rfl)) ?_
  refine LW.pp (PEv.fieldAddr (off := 6) Tryz.underlying24 rfl rfl Tryz.sizeOf22 rfl (.tmp rfl)) ?_
  refine LW.A rfl (LW.T (CW.ret ?_))
  refine KW.ret1 rfl rfl ⟨_, rfl, ?_⟩
  exact ⟨rfl, hW⟩
theorem list_8 (B : Nat) (w : World) : Ret Tryz.prog 104 #[.pointer (some ⟨B, 0, none⟩)] w fun r w' => r = .pointer (some ⟨B, 7, none⟩) ∧ Up w w' := by
  have hW := Up.refl w
  refine Calls_start (n := 6) (m := 9) Tryz.func104 rfl rfl rfl ?_
  refine CW.S (LW.C (LW.S (CW.region (LW.M rfl ?_))))
  refine LW.pp (PEv.nilCheck (.tmp rfl)) ?_
  refine LW.pp (PEv.fieldAddr (off := 7) Tryz.underlying24 rfl rfl Tryz.sizeOf22 rfl (.tmp rfl)) ?_
  refine LW.A rfl (LW.T (CW.ret ?_))
  refine KW.ret1 rfl rfl ⟨_, rfl, ?_⟩
  exact ⟨rfl, hW⟩
theorem list_9 (B : Nat) (w : World) : Ret Tryz.prog 106 #[.pointer (some ⟨B, 0, none⟩)] w fun r w' => r = .pointer (some ⟨B, 8, none⟩) ∧ Up w w' := by
  have hW := Up.refl w
  refine Calls_start (n := 6) (m := 9) Tryz.func106 rfl rfl rfl ?_
  refine CW.S (LW.C (LW.S (CW.region (LW.M rfl ?_))))
  refine LW.pp (PEv.nilCheck (.tmp rfl)) ?_
  refine LW.pp (PEv.fieldAddr (off := 8) Tryz.underlying24 rfl rfl Tryz.sizeOf22 rfl (.tmp rfl)) ?_
  refine LW.A rfl (LW.T (CW.ret ?_))
  refine KW.ret1 rfl rfl ⟨_, rfl, ?_⟩
  exact ⟨rfl, hW⟩
theorem list_10 (B : Nat) (w : World) : Ret Tryz.prog 107 #[.pointer (some ⟨B, 0, none⟩)] w fun r w' => r = .pointer (some ⟨B, 9, none⟩) ∧ Up w w' := by
  have hW := Up.refl w
  refine Calls_start (n := 6) (m := 9) Tryz.func107 rfl rfl rfl ?_
  refine CW.S (LW.C (LW.S (CW.region (LW.M rfl ?_))))
  refine LW.pp (PEv.nilCheck (.tmp rfl)) ?_
  refine LW.pp (PEv.fieldAddr (off := 9) Tryz.underlying24 rfl rfl Tryz.sizeOf22 rfl (.tmp rfl)) ?_
  refine LW.A rfl (LW.T (CW.ret ?_))
  refine KW.ret1 rfl rfl ⟨_, rfl, ?_⟩
  exact ⟨rfl, hW⟩
theorem list_11 (B : Nat) (w : World) : Ret Tryz.prog 109 #[.pointer (some ⟨B, 0, none⟩)] w fun r w' => r = .pointer (some ⟨B, 10, none⟩) ∧ Up w w' := by
  have hW := Up.refl w
  refine Calls_start (n := 6) (m := 9) Tryz.func109 rfl rfl rfl ?_
  refine CW.S (LW.C (LW.S (CW.region (LW.M rfl ?_))))
  refine LW.pp (PEv.nilCheck (.tmp rfl)) ?_
  refine LW.pp (PEv.fieldAddr (off := 10) Tryz.underlying24 rfl rfl Tryz.sizeOf22 rfl (.tmp rfl)) ?_
  refine LW.A rfl (LW.T (CW.ret ?_))
  refine KW.ret1 rfl rfl ⟨_, rfl, ?_⟩
  exact ⟨rfl, hW⟩
theorem list_any (k : Int) (h1 : 1 ≤ k) (h2 : k ≤ 11) (B : Nat) (w : World) : Ret Tryz.prog (listFn k) #[.pointer (some ⟨B, 0, none⟩)] w fun r w' => r = .pointer (some ⟨B, (k - 1).toNat, none⟩) ∧ Up w w' := by
  obtain rfl | rfl | rfl | rfl | rfl | rfl | rfl | rfl | rfl | rfl | rfl : k = 1 ∨ k = 2 ∨ k = 3 ∨ k = 4 ∨ k = 5 ∨ k = 6 ∨ k = 7 ∨ k = 8 ∨ k = 9 ∨ k = 10 ∨ k = 11 := by omega
  · exact list_1 B w
  · exact list_2 B w
  · exact list_3 B w
  · exact list_4 B w
  · exact list_5 B w
  · exact list_6 B w
  · exact list_7 B w
  · exact list_8 B w
  · exact list_9 B w
  · exact list_10 B w
  · exact list_11 B w
theorem list_en (k : Int) (h1 : 1 ≤ k) (h2 : k ≤ 11) : ∀ (args : Array Go.Value) (w : World), (callFunc (listFn k) args).run Tryz.prog w = .ok (.enter (listFn k) args) w := by
  obtain rfl | rfl | rfl | rfl | rfl | rfl | rfl | rfl | rfl | rfl | rfl : k = 1 ∨ k = 2 ∨ k = 3 ∨ k = 4 ∨ k = 5 ∨ k = 6 ∨ k = 7 ∨ k = 8 ∨ k = 9 ∨ k = 10 ∨ k = 11 := by omega
  · exact Tryz.en94
  · exact Tryz.en96
  · exact Tryz.en97
  · exact Tryz.en98
  · exact Tryz.en100
  · exact Tryz.en102
  · exact Tryz.en103
  · exact Tryz.en104
  · exact Tryz.en106
  · exact Tryz.en107
  · exact Tryz.en109
theorem ord_1 (x : Fact) (w : World) : Ret Tryz.prog 95 #[.agg x.cells] w fun r w' => r = .agg #[vi (ordK 1 x).1, vi (ordK 1 x).2] ∧ Up w w' := by
  have hW := Up.refl w
  refine Calls_start (n := 6) (m := 9) Tryz.func95 rfl rfl rfl ?_
  refine CW.S ?_
  refine LW.r (REv.boxA (.tmp rfl)) rfl rfl rfl rfl ?_
  rintro _ w1 ⟨B1, rfl, NB1⟩
  have eB1 := NB1.at_
  have zB1 := NB1.size
  replace hW := hW.up NB1.up
  have hB1 := NB1.blk
  refine LW.r (REv.allocA Tryz.zeroValue143) rfl rfl rfl rfl ?_
  rintro _ w2 ⟨B2, rfl, NB2⟩
  have eB2 := NB2.at_
  have zB2 := NB2.size
  replace hW := hW.up NB2.up
  replace hB1 := hB1.up NB2.up
  have hB2 := NB2.blk
  refine LW.S (CW.region ?_)
  refine LW.pp (PEv.fieldAddr (off := 1) Tryz.underlying50 rfl rfl Tryz.sizeOf3 rfl (.tmp rfl)) ?_
  refine LW.pp (PEv.load Tryz.isAgg3 (.tmp rfl) (hB1.celln rfl)) ?_
  refine LW.pp (PEv.buildArr (cs := #[vi x.ID, vi 0]) Tryz.underlying143 Tryz.zeroValue143 Tryz.sizeOf3 (.cons (.tmp rfl) (.cons (.const _) .nil)) rfl) ?_
  refine LW.s (SEv.storeA Tryz.sizeOf143 rfl (.tmp rfl) (.tmp rfl) (by first | rfl | exact Fact.one _ | exact GAct.one _ | exact holdCells_one _ _ | exact hold0_one | (simp [Value.oneCell'])) hB2 rfl) rfl rfl rfl ?_
  intro w3 Nw3
  have zw3 := Nw3.size
  replace hW := hW.sto Nw3.sto (by omega)
  replace hB1 := hB1.sto Nw3.sto (by omega)
  replace hB2 := Nw3.blk
  refine LW.T (CW.ret ?_)
  refine KW.retA rfl rfl Tryz.isAgg143 Tryz.sizeOf143 rfl (hB2.agg) ⟨_, rfl, ?_⟩
  exact ⟨rfl, hW⟩
theorem ord_4 (x : Fact) (w : World) : Ret Tryz.prog 99 #[.agg x.cells] w fun r w' => r = .agg #[vi (ordK 4 x).1, vi (ordK 4 x).2] ∧ Up w w' := by
  have hW := Up.refl w
  refine Calls_start (n := 8) (m := 9) Tryz.func99 rfl rfl rfl ?_
  refine CW.S ?_
  refine LW.r (REv.boxA (.tmp rfl)) rfl rfl rfl rfl ?_
  rintro _ w1 ⟨B1, rfl, NB1⟩
  have eB1 := NB1.at_
  have zB1 := NB1.size
  replace hW := hW.up NB1.up
  have hB1 := NB1.blk
  refine LW.r (REv.allocA Tryz.zeroValue143) rfl rfl rfl rfl ?_
  rintro _ w2 ⟨B2, rfl, NB2⟩
  have eB2 := NB2.at_
  have zB2 := NB2.size
  replace hW := hW.up NB2.up
  replace hB1 := hB1.up NB2.up
  have hB2 := NB2.blk
  refine LW.S (CW.region ?_)
  refine LW.pp (PEv.fieldAddr (off := 7) Tryz.underlying50 rfl rfl Tryz.sizeOf3 rfl (.tmp rfl)) ?_
  refine LW.pp (PEv.load Tryz.isAgg3 (.tmp rfl) (hB1.celln rfl)) ?_
  refine LW.pp (PEv.fieldAddr (off := 5) Tryz.underlying50 rfl rfl Tryz.sizeOf3 rfl (.tmp rfl)) ?_
  refine LW.pp (PEv.load Tryz.isAgg3 (.tmp rfl) (hB1.celln rfl)) ?_
  refine LW.pp (PEv.buildArr (cs := #[vi x.Wafer, vi x.Time]) Tryz.underlying143 Tryz.zeroValue143 Tryz.sizeOf3 (.cons (.tmp rfl) (.cons (.tmp rfl) .nil)) rfl) ?_
  refine LW.s (SEv.storeA Tryz.sizeOf143 rfl (.tmp rfl) (.tmp rfl) (by first | rfl | exact Fact.one _ | exact GAct.one _ | exact holdCells_one _ _ | exact hold0_one | (simp [Value.oneCell'])) hB2 rfl) rfl rfl rfl ?_
  intro w3 Nw3
  have zw3 := Nw3.size
  replace hW := hW.sto Nw3.sto (by omega)
  replace hB1 := hB1.sto Nw3.sto (by omega)
  replace hB2 := Nw3.blk
  refine LW.T (CW.ret ?_)
  refine KW.retA rfl rfl Tryz.isAgg143 Tryz.sizeOf143 rfl (hB2.agg) ⟨_, rfl, ?_⟩
  exact ⟨rfl, hW⟩
theorem ord_5 (x : Fact) (w : World) : Ret Tryz.prog 101 #[.agg x.cells] w fun r w' => r = .agg #[vi (ordK 5 x).1, vi (ordK 5 x).2] ∧ Up w w' := by
  have hW := Up.refl w
  refine Calls_start (n := 6) (m := 9) Tryz.func101 rfl rfl rfl ?_
  refine CW.S ?_
  refine LW.r (REv.boxA (.tmp rfl)) rfl rfl rfl rfl ?_
  rintro _ w1 ⟨B1, rfl, NB1⟩
  have eB1 := NB1.at_
  have zB1 := NB1.size
  replace hW := hW.up NB1.up
  have hB1 := NB1.blk
  refine LW.r (REv.allocA Tryz.zeroValue143) rfl rfl rfl rfl ?_
  rintro _ w2 ⟨B2, rfl, NB2⟩
  have eB2 := NB2.at_
  have zB2 := NB2.size
  replace hW := hW.up NB2.up
  replace hB1 := hB1.up NB2.up
  have hB2 := NB2.blk
  refine LW.S (CW.region ?_)
  refine LW.pp (PEv.fieldAddr (off := 10) Tryz.underlying50 rfl rfl Tryz.sizeOf3 rfl (.tmp rfl)) ?_
  refine LW.pp (PEv.load Tryz.isAgg3 (.tmp rfl) (hB1.celln rfl)) ?_
  refine LW.pp (PEv.buildArr (cs := #[vi x.Product, vi 0]) Tryz.underlying143 Tryz.zeroValue143 Tryz.sizeOf3 (.cons (.tmp rfl) (.cons (.const _) .nil)) rfl) ?_
  refine LW.s (SEv.storeA Tryz.sizeOf143 rfl (.tmp rfl) (.tmp rfl) (by first | rfl | exact Fact.one _ | exact GAct.one _ | exact holdCells_one _ _ | exact hold0_one | (simp [Value.oneCell'])) hB2 rfl) rfl rfl rfl ?_
  intro w3 Nw3
  have zw3 := Nw3.size
  replace hW := hW.sto Nw3.sto (by omega)
  replace hB1 := hB1.sto Nw3.sto (by omega)
  replace hB2 := Nw3.blk
  refine LW.T (CW.ret ?_)
  refine KW.retA rfl rfl Tryz.isAgg143 Tryz.sizeOf143 rfl (hB2.agg) ⟨_, rfl, ?_⟩
  exact ⟨rfl, hW⟩
theorem ord_8 (x : Fact) (w : World) : Ret Tryz.prog 105 #[.agg x.cells] w fun r w' => r = .agg #[vi (ordK 8 x).1, vi (ordK 8 x).2] ∧ Up w w' := by
  have hW := Up.refl w
  refine Calls_start (n := 8) (m := 9) Tryz.func105 rfl rfl rfl ?_
  refine CW.S ?_
  refine LW.r (REv.boxA (.tmp rfl)) rfl rfl rfl rfl ?_
  rintro _ w1 ⟨B1, rfl, NB1⟩
  have eB1 := NB1.at_
  have zB1 := NB1.size
  replace hW := hW.up NB1.up
  have hB1 := NB1.blk
  refine LW.r (REv.allocA Tryz.zeroValue143) rfl rfl rfl rfl ?_
  rintro _ w2 ⟨B2, rfl, NB2⟩
  have eB2 := NB2.at_
  have zB2 := NB2.size
  replace hW := hW.up NB2.up
  replace hB1 := hB1.up NB2.up
  have hB2 := NB2.blk
  refine LW.S (CW.region ?_)
  refine LW.pp (PEv.fieldAddr (off := 8) Tryz.underlying50 rfl rfl Tryz.sizeOf3 rfl (.tmp rfl)) ?_
  refine LW.pp (PEv.load Tryz.isAgg3 (.tmp rfl) (hB1.celln rfl)) ?_
  refine LW.pp (PEv.fieldAddr (off := 17) Tryz.underlying50 rfl rfl Tryz.sizeOf3 rfl (.tmp rfl)) ?_
  refine LW.pp (PEv.load Tryz.isAgg3 (.tmp rfl) (hB1.celln rfl)) ?_
  refine LW.pp (PEv.buildArr (cs := #[vi x.Other, vi x.Parties]) Tryz.underlying143 Tryz.zeroValue143 Tryz.sizeOf3 (.cons (.tmp rfl) (.cons (.tmp rfl) .nil)) rfl) ?_
  refine LW.s (SEv.storeA Tryz.sizeOf143 rfl (.tmp rfl) (.tmp rfl) (by first | rfl | exact Fact.one _ | exact GAct.one _ | exact holdCells_one _ _ | exact hold0_one | (simp [Value.oneCell'])) hB2 rfl) rfl rfl rfl ?_
  intro w3 Nw3
  have zw3 := Nw3.size
  replace hW := hW.sto Nw3.sto (by omega)
  replace hB1 := hB1.sto Nw3.sto (by omega)
  replace hB2 := Nw3.blk
  refine LW.T (CW.ret ?_)
  refine KW.retA rfl rfl Tryz.isAgg143 Tryz.sizeOf143 rfl (hB2.agg) ⟨_, rfl, ?_⟩
  exact ⟨rfl, hW⟩
theorem ord_10 (x : Fact) (w : World) : Ret Tryz.prog 108 #[.agg x.cells] w fun r w' => r = .agg #[vi (ordK 10 x).1, vi (ordK 10 x).2] ∧ Up w w' := by
  have hW := Up.refl w
  refine Calls_start (n := 8) (m := 9) Tryz.func108 rfl rfl rfl ?_
  refine CW.S ?_
  refine LW.r (REv.boxA (.tmp rfl)) rfl rfl rfl rfl ?_
  rintro _ w1 ⟨B1, rfl, NB1⟩
  have eB1 := NB1.at_
  have zB1 := NB1.size
  replace hW := hW.up NB1.up
  have hB1 := NB1.blk
  refine LW.r (REv.allocA Tryz.zeroValue143) rfl rfl rfl rfl ?_
  rintro _ w2 ⟨B2, rfl, NB2⟩
  have eB2 := NB2.at_
  have zB2 := NB2.size
  replace hW := hW.up NB2.up
  replace hB1 := hB1.up NB2.up
  have hB2 := NB2.blk
  refine LW.S (CW.region ?_)
  refine LW.pp (PEv.fieldAddr (off := 14) Tryz.underlying50 rfl rfl Tryz.sizeOf3 rfl (.tmp rfl)) ?_
  refine LW.pp (PEv.load Tryz.isAgg3 (.tmp rfl) (hB1.celln rfl)) ?_
  refine LW.pp (PEv.fieldAddr (off := 5) Tryz.underlying50 rfl rfl Tryz.sizeOf3 rfl (.tmp rfl)) ?_
  refine LW.pp (PEv.load Tryz.isAgg3 (.tmp rfl) (hB1.celln rfl)) ?_
  refine LW.pp (PEv.buildArr (cs := #[vi x.Recipe, vi x.Time]) Tryz.underlying143 Tryz.zeroValue143 Tryz.sizeOf3 (.cons (.tmp rfl) (.cons (.tmp rfl) .nil)) rfl) ?_
  refine LW.s (SEv.storeA Tryz.sizeOf143 rfl (.tmp rfl) (.tmp rfl) (by first | rfl | exact Fact.one _ | exact GAct.one _ | exact holdCells_one _ _ | exact hold0_one | (simp [Value.oneCell'])) hB2 rfl) rfl rfl rfl ?_
  intro w3 Nw3
  have zw3 := Nw3.size
  replace hW := hW.sto Nw3.sto (by omega)
  replace hB1 := hB1.sto Nw3.sto (by omega)
  replace hB2 := Nw3.blk
  refine LW.T (CW.ret ?_)
  refine KW.retA rfl rfl Tryz.isAgg143 Tryz.sizeOf143 rfl (hB2.agg) ⟨_, rfl, ?_⟩
  exact ⟨rfl, hW⟩
theorem ord_any (k : Int) (h1 : 1 ≤ k) (h2 : k ≤ 11) (x : Fact) (w : World) : Ret Tryz.prog (ordFn k) #[.agg x.cells] w fun r w' => r = .agg #[vi (ordK k x).1, vi (ordK k x).2] ∧ Up w w' := by
  obtain rfl | rfl | rfl | rfl | rfl | rfl | rfl | rfl | rfl | rfl | rfl : k = 1 ∨ k = 2 ∨ k = 3 ∨ k = 4 ∨ k = 5 ∨ k = 6 ∨ k = 7 ∨ k = 8 ∨ k = 9 ∨ k = 10 ∨ k = 11 := by omega
  · exact ord_1 x w
  · exact ord_1 x w
  · exact ord_1 x w
  · exact ord_4 x w
  · exact ord_5 x w
  · exact ord_1 x w
  · exact ord_1 x w
  · exact ord_8 x w
  · exact ord_1 x w
  · exact ord_10 x w
  · exact ord_1 x w
theorem ord_en (k : Int) (h1 : 1 ≤ k) (h2 : k ≤ 11) : ∀ (args : Array Go.Value) (w : World), (callFunc (ordFn k) args).run Tryz.prog w = .ok (.enter (ordFn k) args) w := by
  obtain rfl | rfl | rfl | rfl | rfl | rfl | rfl | rfl | rfl | rfl | rfl : k = 1 ∨ k = 2 ∨ k = 3 ∨ k = 4 ∨ k = 5 ∨ k = 6 ∨ k = 7 ∨ k = 8 ∨ k = 9 ∨ k = 10 ∨ k = 11 := by omega
  · exact Tryz.en95
  · exact Tryz.en95
  · exact Tryz.en95
  · exact Tryz.en99
  · exact Tryz.en101
  · exact Tryz.en95
  · exact Tryz.en95
  · exact Tryz.en105
  · exact Tryz.en95
  · exact Tryz.en108
  · exact Tryz.en95
theorem kinds_any (w : World) : Ret Tryz.prog 47 #[] w fun r w' => ∃ b, r = .map (some b) ∧ IMap w' b (keyT KdV 11) ∧ w.heap.size ≤ b ∧ Up w w' := by
  have hW := Up.refl w
  refine Calls_start (n := 14) (m := 9) Tryz.func47 rfl rfl rfl ?_
  refine CW.S (LW.C (LW.S ?_))
  skip
  refine CW.region ?_
  refine LW.r REv.makeMap rfl rfl rfl rfl ?_
  rintro _ w1 ⟨B1, rfl, MB1, uB1, eB1, zB1⟩
  replace hW := hW.up uB1
  have hM1 := MB1
  refine LW.pp (PEv.build (cs := #[.func (.func 94) #[] #[], .func (.func 95) #[] #[]]) Tryz.underlying91 Tryz.zeroValue91 Tryz.places91 (.cons (.func _) (.cons (.func _) .nil)) rfl) ?_
  replace hM1 : IMap _ B1 (keyT KdV 0) := hM1
  refine LW.s (SEv.insert (k := ((0 + 1 : Nat) : Int)) (v := KdV ((0 + 1 : Nat) : Int)) Tryz.underlying85 Tryz.underlying3 (.tmp rfl) (.const _) (.tmp rfl) hM1) rfl rfl rfl ?_
  rintro w2 ⟨Mw2, Kw2, zw2⟩
  rw [keyT_next] at Mw2
  replace hM1 := Mw2
  replace hW := hW.sto Kw2 (by omega)
  refine LW.pp (PEv.build (cs := #[.func (.func 96) #[] #[], .func (.func 95) #[] #[]]) Tryz.underlying91 Tryz.zeroValue91 Tryz.places91 (.cons (.func _) (.cons (.func _) .nil)) rfl) ?_
  refine LW.s (SEv.insert (k := ((1 + 1 : Nat) : Int)) (v := KdV ((1 + 1 : Nat) : Int)) Tryz.underlying85 Tryz.underlying3 (.tmp rfl) (.const _) (.tmp rfl) hM1) rfl rfl rfl ?_
  rintro w3 ⟨Mw3, Kw3, zw3⟩
  rw [keyT_next] at Mw3
  replace hM1 := Mw3
  replace hW := hW.sto Kw3 (by omega)
  refine LW.pp (PEv.build (cs := #[.func (.func 97) #[] #[], .func (.func 95) #[] #[]]) Tryz.underlying91 Tryz.zeroValue91 Tryz.places91 (.cons (.func _) (.cons (.func _) .nil)) rfl) ?_
  refine LW.s (SEv.insert (k := ((2 + 1 : Nat) : Int)) (v := KdV ((2 + 1 : Nat) : Int)) Tryz.underlying85 Tryz.underlying3 (.tmp rfl) (.const _) (.tmp rfl) hM1) rfl rfl rfl ?_
  rintro w4 ⟨Mw4, Kw4, zw4⟩
  rw [keyT_next] at Mw4
  replace hM1 := Mw4
  replace hW := hW.sto Kw4 (by omega)
  refine LW.pp (PEv.build (cs := #[.func (.func 98) #[] #[], .func (.func 99) #[] #[]]) Tryz.underlying91 Tryz.zeroValue91 Tryz.places91 (.cons (.func _) (.cons (.func _) .nil)) rfl) ?_
  refine LW.s (SEv.insert (k := ((3 + 1 : Nat) : Int)) (v := KdV ((3 + 1 : Nat) : Int)) Tryz.underlying85 Tryz.underlying3 (.tmp rfl) (.const _) (.tmp rfl) hM1) rfl rfl rfl ?_
  rintro w5 ⟨Mw5, Kw5, zw5⟩
  rw [keyT_next] at Mw5
  replace hM1 := Mw5
  replace hW := hW.sto Kw5 (by omega)
  refine LW.pp (PEv.build (cs := #[.func (.func 100) #[] #[], .func (.func 101) #[] #[]]) Tryz.underlying91 Tryz.zeroValue91 Tryz.places91 (.cons (.func _) (.cons (.func _) .nil)) rfl) ?_
  refine LW.s (SEv.insert (k := ((4 + 1 : Nat) : Int)) (v := KdV ((4 + 1 : Nat) : Int)) Tryz.underlying85 Tryz.underlying3 (.tmp rfl) (.const _) (.tmp rfl) hM1) rfl rfl rfl ?_
  rintro w6 ⟨Mw6, Kw6, zw6⟩
  rw [keyT_next] at Mw6
  replace hM1 := Mw6
  replace hW := hW.sto Kw6 (by omega)
  refine LW.pp (PEv.build (cs := #[.func (.func 102) #[] #[], .func (.func 95) #[] #[]]) Tryz.underlying91 Tryz.zeroValue91 Tryz.places91 (.cons (.func _) (.cons (.func _) .nil)) rfl) ?_
  refine LW.s (SEv.insert (k := ((5 + 1 : Nat) : Int)) (v := KdV ((5 + 1 : Nat) : Int)) Tryz.underlying85 Tryz.underlying3 (.tmp rfl) (.const _) (.tmp rfl) hM1) rfl rfl rfl ?_
  rintro w7 ⟨Mw7, Kw7, zw7⟩
  rw [keyT_next] at Mw7
  replace hM1 := Mw7
  replace hW := hW.sto Kw7 (by omega)
  refine LW.pp (PEv.build (cs := #[.func (.func 103) #[] #[], .func (.func 95) #[] #[]]) Tryz.underlying91 Tryz.zeroValue91 Tryz.places91 (.cons (.func _) (.cons (.func _) .nil)) rfl) ?_
  refine LW.s (SEv.insert (k := ((6 + 1 : Nat) : Int)) (v := KdV ((6 + 1 : Nat) : Int)) Tryz.underlying85 Tryz.underlying3 (.tmp rfl) (.const _) (.tmp rfl) hM1) rfl rfl rfl ?_
  rintro w8 ⟨Mw8, Kw8, zw8⟩
  rw [keyT_next] at Mw8
  replace hM1 := Mw8
  replace hW := hW.sto Kw8 (by omega)
  refine LW.pp (PEv.build (cs := #[.func (.func 104) #[] #[], .func (.func 105) #[] #[]]) Tryz.underlying91 Tryz.zeroValue91 Tryz.places91 (.cons (.func _) (.cons (.func _) .nil)) rfl) ?_
  refine LW.s (SEv.insert (k := ((7 + 1 : Nat) : Int)) (v := KdV ((7 + 1 : Nat) : Int)) Tryz.underlying85 Tryz.underlying3 (.tmp rfl) (.const _) (.tmp rfl) hM1) rfl rfl rfl ?_
  rintro w9 ⟨Mw9, Kw9, zw9⟩
  rw [keyT_next] at Mw9
  replace hM1 := Mw9
  replace hW := hW.sto Kw9 (by omega)
  refine LW.pp (PEv.build (cs := #[.func (.func 106) #[] #[], .func (.func 95) #[] #[]]) Tryz.underlying91 Tryz.zeroValue91 Tryz.places91 (.cons (.func _) (.cons (.func _) .nil)) rfl) ?_
  refine LW.s (SEv.insert (k := ((8 + 1 : Nat) : Int)) (v := KdV ((8 + 1 : Nat) : Int)) Tryz.underlying85 Tryz.underlying3 (.tmp rfl) (.const _) (.tmp rfl) hM1) rfl rfl rfl ?_
  rintro w10 ⟨Mw10, Kw10, zw10⟩
  rw [keyT_next] at Mw10
  replace hM1 := Mw10
  replace hW := hW.sto Kw10 (by omega)
  refine LW.pp (PEv.build (cs := #[.func (.func 107) #[] #[], .func (.func 108) #[] #[]]) Tryz.underlying91 Tryz.zeroValue91 Tryz.places91 (.cons (.func _) (.cons (.func _) .nil)) rfl) ?_
  refine LW.s (SEv.insert (k := ((9 + 1 : Nat) : Int)) (v := KdV ((9 + 1 : Nat) : Int)) Tryz.underlying85 Tryz.underlying3 (.tmp rfl) (.const _) (.tmp rfl) hM1) rfl rfl rfl ?_
  rintro w11 ⟨Mw11, Kw11, zw11⟩
  rw [keyT_next] at Mw11
  replace hM1 := Mw11
  replace hW := hW.sto Kw11 (by omega)
  refine LW.pp (PEv.build (cs := #[.func (.func 109) #[] #[], .func (.func 95) #[] #[]]) Tryz.underlying91 Tryz.zeroValue91 Tryz.places91 (.cons (.func _) (.cons (.func _) .nil)) rfl) ?_
  refine LW.s (SEv.insert (k := ((10 + 1 : Nat) : Int)) (v := KdV ((10 + 1 : Nat) : Int)) Tryz.underlying85 Tryz.underlying3 (.tmp rfl) (.const _) (.tmp rfl) hM1) rfl rfl rfl ?_
  rintro w12 ⟨Mw12, Kw12, zw12⟩
  rw [keyT_next] at Mw12
  replace hM1 := Mw12
  replace hW := hW.sto Kw12 (by omega)
  refine LW.M rfl (LW.A rfl (LW.T (CW.ret ?_)))
  refine KW.ret1 rfl rfl ⟨_, rfl, ?_⟩
  exact ⟨_, rfl, hM1, by omega, hW⟩
end Go.Proofs.YtgffaeachbbjoaaGreatDoor
namespace Go.Wx
abbrev FMap := List (List UInt8 × Fact)
def fget (m : FMap) (k : List UInt8) : Option Fact := (m.find? fun p => p.1 == k).map (·.2)
def fset (m : FMap) (k : List UInt8) (f : Fact) : FMap := if k ∈ m.map (·.1) then m.map (fun p => if p.1 = k then (k, f) else p) else m ++ [(k, f)]
def encM (m : FMap) : List (List UInt8 × Go.Value) := m.map fun p => (p.1, .agg p.2.cells)
theorem encM_keys (m : FMap) : (encM m).map (·.1) = m.map (·.1) := by simp [encM]
theorem encM_set (m : FMap) (k : List UInt8) (f : Fact) : Ms.mset (encM m) k (.agg f.cells) = encM (fset m k f) := by
  unfold Ms.mset fset
  rw [encM_keys]
  split
  · simp only [encM, List.map_map]
    apply List.map_congr_left
    intro p _
    simp only [Function.comp]
    split <;> rfl
  · simp [encM]
theorem fget_some {m : FMap} {k : List UInt8} {f : Fact} (h : fget m k = some f) : (k, .agg f.cells) ∈ encM m := by
  unfold fget at h
  cases hf : m.find? (fun p => p.1 == k) with
  | none => rw [hf] at h; cases h
  | some p =>
    rw [hf] at h
    have h1 := List.mem_of_find?_eq_some hf
    have h2 : (p.1 == k) = true := List.find?_some (p := fun p : List UInt8 × Fact => p.1 == k) hf
    have h3 := eq_of_beq h2
    simp at h
    refine List.mem_map.2 ⟨p, h1, ?_⟩
    rw [h3, h]
theorem fget_none {m : FMap} {k : List UInt8} (h : fget m k = none) : k ∉ (encM m).map (·.1) := by
  rw [encM_keys]
  intro hm
  obtain ⟨p, hp, e⟩ := List.mem_map.1 hm
  unfold fget at h
  rw [Option.map_eq_none_iff, List.find?_eq_none] at h
  exact h p hp (by simp [e])
def bestStep (day : Int) (m : FMap) (f : Fact) : FMap := if keyB f = [] ∨ day < f.Day then m else match fget m (keyB f) with
  | none => fset m (keyB f) f
  | some old => if prevB f old = true then fset m (keyB f) f else m
def bestL (l : List Fact) (day : Int) : FMap := l.foldl (bestStep day) []
theorem best_next {l : List Fact} {day : Int} {k : Nat} {x : Fact} (h : l[k]? = some x) : bestL (l.take (k + 1)) day = bestStep day (bestL (l.take k) day) x := by
  rw [take_succ_of h, bestL, List.foldl_append]; rfl
theorem best_skip {day : Int} {m : FMap} {x : Fact} (h : keyB x = [] ∨ day < x.Day) : bestStep day m x = m := by rw [bestStep, if_pos h]
theorem best_new {day : Int} {m : FMap} {x : Fact} (h : ¬ (keyB x = [] ∨ day < x.Day)) (hg : fget m (keyB x) = none) : bestStep day m x = fset m (keyB x) x := by rw [bestStep, if_neg h, hg]
theorem best_put {day : Int} {m : FMap} {x old : Fact} (h : ¬ (keyB x = [] ∨ day < x.Day)) (hg : fget m (keyB x) = some old) (hp : prevB x old = true) : bestStep day m x = fset m (keyB x) x := by rw [bestStep, if_neg h, hg]; simp [hp]
theorem best_old {day : Int} {m : FMap} {x old : Fact} (h : ¬ (keyB x = [] ∨ day < x.Day)) (hg : fget m (keyB x) = some old) (hp : prevB x old = false) : bestStep day m x = m := by rw [bestStep, if_neg h, hg]; simp [hp]
def MOk (m : FMap) : Prop := ∀ p ∈ m, p.1 = keyB p.2 ∧ validB p.2 = true
theorem keyB_valid {f : Fact} (h : keyB f ≠ []) : validB f = true := by
  cases hv : validB f with
  | true => rfl
  | false => rw [keyB, if_neg (by rw [hv]; exact Bool.false_ne_true)] at h; exact absurd rfl h
theorem MOk.set {m : FMap} {f : Fact} (h : MOk m) (hf : validB f = true) : MOk (fset m (keyB f) f) := by
  intro p hp
  unfold fset at hp
  split at hp
  · obtain ⟨q, hq, e⟩ := List.mem_map.1 hp
    split at e
    · rw [← e]; exact ⟨rfl, hf⟩
    · rw [← e]; exact h q hq
  · rcases List.mem_append.1 hp with hp | hp
    · exact h p hp
    · simp at hp; rw [hp]; exact ⟨rfl, hf⟩
theorem fset_len (m : FMap) (k : List UInt8) (f : Fact) : (fset m k f).length ≤ m.length + 1 := by
  unfold fset
  split <;> simp
theorem MOk.step {m : FMap} (h : MOk m) (day : Int) (f : Fact) : MOk (bestStep day m f) ∧ (bestStep day m f).length ≤ m.length + 1 := by
  unfold bestStep
  split
  · exact ⟨h, by omega⟩
  · rename_i hk
    have hv : validB f = true := keyB_valid fun e => hk (.inl e)
    split
    · exact ⟨h.set hv, fset_len _ _ _⟩
    · split
      · exact ⟨h.set hv, fset_len _ _ _⟩
      · exact ⟨h, by omega⟩
theorem best_ok (day : Int) : ∀ (l : List Fact), MOk (bestL l day) ∧ (bestL l day).length ≤ l.length := by
  have : ∀ (l : List Fact) (m : FMap), MOk m → MOk (l.foldl (bestStep day) m) ∧ (l.foldl (bestStep day) m).length ≤ m.length + l.length := by
    intro l
    induction l with
    | nil => intro m h; exact ⟨h, by simp⟩
    | cons x l ih =>
      intro m h
      have h1 := h.step day x
      have h2 := ih _ h1.1
      exact ⟨h2.1, by have := h2.2; simp only [List.foldl_cons, List.length_cons]; omega⟩
  intro l
  have h := this l [] (fun p hp => by simp at hp)
  exact ⟨h.1, by have := h.2; simp only [List.length_nil, Nat.zero_add] at this; exact this⟩
def lstAt (dn : List Int) (ds : List Fact) (j : Nat) : List Fact :=
  if ((j + 1 : Nat) : Int) ∈ dn then sortK (ordK ((j + 1 : Nat) : Int)) (ds.filter fun f => !f.Gone && decide (f.Kind = ((j + 1 : Nat) : Int))) else ds.filter fun f => !f.Gone && decide (f.Kind = ((j + 1 : Nat) : Int))
def byK (dn : List Int) (ds : List Fact) : List (List Fact) := (List.range 11).map (lstAt dn ds)
theorem byK_len (dn : List Int) (ds : List Fact) : (byK dn ds).length = 11 := by simp [byK]
theorem byK_get (dn : List Int) (ds : List Fact) {j : Nat} (hj : j < 11) : (byK dn ds)[j]? = some (lstAt dn ds j) := by simp [byK, hj]
theorem byK_gone {ds : List Fact} {x : Fact} (h : x.Gone = true) : byK [] (ds ++ [x]) = byK [] ds := by
  unfold byK
  apply List.map_congr_left
  intro j _
  simp [lstAt, h]
theorem byK_add {ds : List Fact} {x : Fact} {j : Nat} (h : x.Gone = false) (hj : j < 11) (hk : x.Kind = ((j + 1 : Nat) : Int)) : byK [] (ds ++ [x]) = (byK [] ds).set j (lstAt [] ds j ++ [x]) := by
  apply List.ext_getElem?
  intro i
  rw [List.getElem?_set]
  by_cases e : j = i
  · subst e
    rw [if_pos rfl, if_pos (by rw [byK_len]; exact hj), byK_get _ _ hj]
    simp [lstAt, h, hk]
  · rw [if_neg e]
    by_cases hi : i < 11
    · rw [byK_get _ _ hi, byK_get _ _ hi]
      have : decide (x.Kind = ((i + 1 : Nat) : Int)) = false := decide_eq_false (by omega)
      simp only [lstAt, List.not_mem_nil, if_false, List.filter_append]
      rw [List.filter_cons, if_neg (by rw [this, Bool.and_false]; exact Bool.false_ne_true)]
      simp
    · rw [List.getElem?_eq_none (by rw [byK_len]; omega), List.getElem?_eq_none (by rw [byK_len]; omega)]
theorem byK_sort {dn : List Int} {ds : List Fact} {j : Nat} (hj : j < 11) (hn : ((j + 1 : Nat) : Int) ∉ dn) : (byK dn ds).set j (sortK (ordK ((j + 1 : Nat) : Int)) (lstAt dn ds j)) = byK (dn ++ [((j + 1 : Nat) : Int)]) ds := by
  apply List.ext_getElem?
  intro i
  rw [List.getElem?_set]
  by_cases e : j = i
  · subst e
    rw [if_pos rfl, if_pos (by rw [byK_len]; exact hj), byK_get _ _ hj]
    unfold lstAt
    rw [if_neg hn, if_pos (List.mem_append_right _ (List.mem_singleton.2 rfl))]
  · rw [if_neg e]
    by_cases hi : i < 11
    · rw [byK_get _ _ hi, byK_get _ _ hi]
      have : ((i + 1 : Nat) : Int) ≠ ((j + 1 : Nat) : Int) := by omega
      simp only [lstAt, List.mem_append, List.mem_singleton, this, or_false]
    · rw [List.getElem?_eq_none (by rw [byK_len]; omega), List.getElem?_eq_none (by rw [byK_len]; omega)]
theorem lst_len (dn : List Int) (ds : List Fact) (j : Nat) : (lstAt dn ds j).length ≤ ds.length := by
  unfold lstAt
  split
  · rw [(sortK_sts _).same.length]; exact List.length_filter_le _ _
  · exact List.length_filter_le _ _
theorem byK_nil : byK [] [] = List.replicate 11 ([] : List Fact) := by
  rfl
theorem set_arr (vs : List Go.Value) (j : Nat) (v : Go.Value) : vs.toArray.setIfInBounds j v = (vs.set j v).toArray := by simp
theorem key_empty {x : Fact} (h : keyB x = []) : ((⟨(keyB x).toArray⟩ : ByteArray).toList == (⟨#[]⟩ : ByteArray).toList) = true := by rw [ba_toList, ba_toList, h]; rfl
theorem key_full {x : Fact} (h : keyB x ≠ []) : ((⟨(keyB x).toArray⟩ : ByteArray).toList == (⟨#[]⟩ : ByteArray).toList) = false := by
  rw [ba_toList, ba_toList]
  simpa using h
theorem eleven_split {vs : List Go.Value} (h : vs.length = 11) : ∃ v0 v1 v2 v3 v4 v5 v6 v7 v8 v9 v10, vs = [v0, v1, v2, v3, v4, v5, v6, v7, v8, v9, v10] := by
  match vs, h with
  | [v0, v1, v2, v3, v4, v5, v6, v7, v8, v9, v10], _ => exact ⟨v0, v1, v2, v3, v4, v5, v6, v7, v8, v9, v10, rfl⟩
def baseL (ds : List Fact) : Base := ⟨lstAt [1] ds 0, lstAt [2] ds 1, lstAt [3] ds 2, lstAt [4] ds 3, lstAt [5] ds 4, lstAt [6] ds 5, lstAt [7] ds 6, lstAt [8] ds 7, lstAt [9] ds 8, lstAt [10] ds 9, lstAt [11] ds 10⟩
theorem lst_done {dn : List Int} {ds : List Fact} {j : Nat} (h : ((j + 1 : Nat) : Int) ∈ dn) : lstAt dn ds j = lstAt [((j + 1 : Nat) : Int)] ds j := by
  unfold lstAt
  rw [if_pos h, if_pos (List.mem_singleton.2 rfl)]
end Go.Wx
namespace Go.Proofs.YtgffaeachbbjoaaGreatDoor
open Go.Wx Go.RowKit
end Go.Proofs.YtgffaeachbbjoaaGreatDoor
namespace Go.Wx
theorem nodup_snoc {ds : List Fact} {x : Fact} (h : (ds.map keyB).Nodup) (hf : keyB x ∉ ds.map keyB) : ((ds ++ [x]).map keyB).Nodup := by
  rw [List.map_append, List.nodup_append]
  exact ⟨h, by simp, fun a ha c hc => by simp at hc; subst hc; exact fun e => hf (e ▸ ha)⟩
theorem nodup_le {ds : List Fact} {M : FMap} (h : ∀ f ∈ ds, (keyB f, f) ∈ M) (hn : (ds.map keyB).Nodup) : ds.length ≤ M.length := by
  have := hn.length_le_of_subset (l₂ := M.map (·.1)) (fun k hk => by
    obtain ⟨f, hf, rfl⟩ := List.mem_map.1 hk
    exact List.mem_map.2 ⟨_, h f hf, rfl⟩)
  simpa using this
theorem nodup_lt {ds : List Fact} {M : FMap} {x : Fact} (h : ∀ f ∈ ds, (keyB f, f) ∈ M) (hn : (ds.map keyB).Nodup) (hx : (keyB x, x) ∈ M) (hf : keyB x ∉ ds.map keyB) : ds.length + 1 ≤ M.length := by
  have := nodup_le (ds := ds ++ [x]) (M := M) (fun f hf => by rcases List.mem_append.1 hf with hf | hf; exact h f hf; simp at hf; rw [hf]; exact hx) (nodup_snoc hn hf)
  simpa using this
theorem eleven_le {dn : List Int} (h : dn.Nodup ∧ ∀ k ∈ dn, 1 ≤ k ∧ k ≤ 11) : dn.length ≤ 11 := by
  have := h.1.length_le_of_subset (l₂ := [1, 2, 3, 4, 5, 6, 7, 8, 9, 10, 11]) (fun k hk => by
    have := h.2 k hk
    simp; omega)
  simpa using this
theorem eleven_lt {dn : List Int} {k : Int} (h : dn.Nodup ∧ ∀ k ∈ dn, 1 ≤ k ∧ k ≤ 11) (hk : 1 ≤ k ∧ k ≤ 11) (hf : k ∉ dn) : dn.length + 1 ≤ 11 := by
  have := eleven_le (dn := dn ++ [k]) ⟨List.nodup_append.2 ⟨h.1, by simp, fun a ha c hc => by simp at hc; subst hc; exact fun e => hf (e ▸ ha)⟩, fun q hq => by rcases List.mem_append.1 hq with hq | hq; exact h.2 q hq; simp at hq; rw [hq]; exact hk⟩
  simpa using this
theorem set_same {α : Type} {vs : List α} {j : Nat} {v : α} (h : vs[j]? = some v) : vs.set j v = vs := by
  apply List.ext_getElem?
  intro i
  rw [List.getElem?_set]
  by_cases e : j = i
  · subst e
    rw [if_pos rfl, if_pos (List.getElem?_eq_some_iff.1 h).1, h]
  · rw [if_neg e]
theorem lists_sl {e : Nat} {dn : List Int} {ds : List Fact} {vs : List Go.Value} {w : World} (h : (aAnd (lists e 19 Fact.cells vs (byK dn ds))).holds w) {j : Nat} {v : Go.Value} (hv : vs[j]? = some v) (hj : j < 11) (hin : ((j + 1 : Nat) : Int) ∈ dn) : Sl w v 19 Fact.cells (lstAt [((j + 1 : Nat) : Int)] ds j) := by
  have := (lists_own h hv (byK_get _ _ hj)).sl (fun _ => rfl)
  rwa [lst_done hin] at this
def BaseB (base : Nat) (bc : Array Go.Value) : Prop := ∀ (j : Nat) (v : Go.Value), bc[j]? = some v → ∀ i, v.ownBlock = some i → base ≤ i
theorem Sl.frB {α : Type} {S : Nat → Prop} {w w' : World} {base k : Nat} {v : Go.Value} {enc : α → Array Go.Value} {xs : List α} (h : Sl w v k enc xs) (hb : ∀ i, v.ownBlock = some i → base ≤ i) (f : Fr S w w') (hS : ∀ i, S i → i < base) : Sl w' v k enc xs := by
  obtain ⟨ad, c, rfl, hE⟩ := h
  refine ⟨ad, c, rfl, Els.fr hE f fun B o ea hSB => ?_⟩
  subst ea
  have h1 := hb B rfl
  have h2 := hS B hSB
  omega
theorem BaseC.frB {S : Nat → Prop} {w w' : World} {base : Nat} {bc : Array Go.Value} {b : Base} (h : BaseC w bc b) (hb : BaseB base bc) (f : Fr S w w') (hS : ∀ i, S i → i < base) : BaseC w' bc b := by
  obtain ⟨v0, v1, v2, v3, v4, v5, v6, v7, v8, v9, v10, rfl, h0, h1, h2, h3, h4, h5, h6, h7, h8, h9, h10⟩ := h
  exact ⟨v0, v1, v2, v3, v4, v5, v6, v7, v8, v9, v10, rfl, h0.frB (hb 0 _ rfl) f hS, h1.frB (hb 1 _ rfl) f hS, h2.frB (hb 2 _ rfl) f hS, h3.frB (hb 3 _ rfl) f hS, h4.frB (hb 4 _ rfl) f hS, h5.frB (hb 5 _ rfl) f hS, h6.frB (hb 6 _ rfl) f hS, h7.frB (hb 7 _ rfl) f hS, h8.frB (hb 8 _ rfl) f hS, h9.frB (hb 9 _ rfl) f hS, h10.frB (hb 10 _ rfl) f hS⟩
theorem lists_base {α : Type} {e k base : Nat} {enc : α → Array Go.Value} {vs : List Go.Value} {xss : List (List α)} (hl : vs.length = xss.length) (h : ∀ i, (aAnd (lists e k enc vs xss)).foot i → base ≤ i) : BaseB base vs.toArray := fun j v hv i hi => by
  have hv2 : vs[j]? = some v := by simpa using hv
  have hlt := (List.getElem?_eq_some_iff.1 hv2).1
  obtain ⟨xs, hx⟩ := getElem?_of_lt (xs := xss) (i := j) (by omega)
  exact h i ⟨_, List.mem_of_getElem? (lists_get hv2 hx), hi⟩
theorem all_one {vs : List Go.Value} (h : ∀ v ∈ vs, v.oneCell' = true) : vs.toArray.all (·.oneCell') = true := by
  rw [Array.all_eq_true_iff_forall_mem]
  intro v hv
  exact h v (by simpa using hv)
end Go.Wx
namespace Go.Proofs.YtgffaeachbbjoaaGreatDoor
open Go.Wx Go.RowKit
set_option maxHeartbeats 8000000 in
theorem Of_walk (ad : Option Addr) (cp : Nat) (l : List Fact) (day : Int) (w : World) (hE0 : Els w ad 19 Fact.cells l) (hl : l.length ≤ 100000) : Ret Tryz.prog 23 #[.slice ad l.length cp, vi day] w fun r w' => ∃ bc ds, r = .agg bc ∧ BaseC w' bc (baseL ds) ∧ (∀ f ∈ ds, (keyB f, f) ∈ bestL l day) ∧ (ds.map keyB).Perm ((bestL l day).map (·.1)) ∧ BaseB w.heap.size bc ∧ Up w w' := by
  obtain ⟨w0, rfl⟩ : ∃ w0, w0 = w := ⟨_, rfl⟩
  have hS := Sep.start no w0
  refine Calls_start (n := 91) (m := 9) Tryz.func23 rfl rfl rfl ?_
  refine CW.S ?_
  refine LW.r (REv.allocA Tryz.zeroValue24) rfl rfl rfl rfl ?_
  rintro _ w1 ⟨B4, rfl, NB4⟩
  have eB4 := NB4.at_
  have zB4 := NB4.size
  replace hS := hS.addB NB4
  change Wx.Sep _ _ _ [_] at hS
  refine LW.S (CW.region ?_)
  refine LW.r Ms.REv.makeMap rfl rfl rfl rfl ?_
  rintro _ w2 ⟨B18, rfl, M18, u18, e18, z18⟩
  replace hS := hS.add u18 (A' := Ms.aIMap B18 (encM [])) M18 (fun i (e : i = B18) => by omega)
  change Wx.Sep _ _ _ [_, _] at hS
  refine LW.A rfl (LW.S (CW.S (LW.M rfl ?_)))
  refine LW.pp (PEv.lenS Tryz.underlying22 (.tmp rfl)) ?_
  refine LW.pp (PEv.move (.const _)) ?_
  refine LW.T (CW.block ?_)
  refine CW.loopB (σ := Nat) (fun s w => (s ≤ l.length) ∧ (Wx.Sep no w0 w [aBlk B4 #[.slice none 0 0, .slice none 0 0, .slice none 0 0, .slice none 0 0, .slice none 0 0, .slice none 0 0, .slice none 0 0, .slice none 0 0, .slice none 0 0, .slice none 0 0, .slice none 0 0] 24, Ms.aIMap B18 (encM (bestL (l.take s) day))])) (fun s => [(21, .eq (vi (s : Int)))]) ([(1, .eq _), (4, .eq _), (5, .eq _), (19, .eq _), (20, .eq _)]) (fun s => l.length - s) 0 ?_ ⟨rfl, rfl, rfl, rfl, rfl, rfl, trivial⟩ ?_
  ·exact ⟨Nat.zero_le _, hS⟩
  ·rintro k w3 ⟨hkk, hS⟩
   refine CW.S ?_
   refine LW.pp (PEv.lss (.tmp rfl) (.tmp rfl)) ?_
   refine LW.S ?_
   refine CW.cond (.tmp rfl) (fun h22 => ?_) (fun h22 => ?_)
   ·first | replace h22 := dT h22 | replace h22 := dF h22 | skip
    refine CW.skip (KW.then (CW.seq (CW.block (CW.seq ?_))))
    have hE := Els.up hE0 hS.upd
    have hkl : k < l.length := by simp at h22; omega
    refine CW.region ?_
    obtain ⟨x, hx⟩ := getElem?_of_lt (xs := l) (i := k) (by omega)
    obtain ⟨Bx, ox, ax, hcx⟩ := hE _ x hx
    refine LW.pp (PEv.indexAddr' Tryz.underlying22 Tryz.sizeOf50 (.tmp rfl) (.tmp rfl) (by omega) ax) ?_
    refine LW.pp (PEv.loadA Tryz.isAgg50 Tryz.sizeOf50 rfl (.tmp rfl) (hcx)) ?_
    refine LW.r (REv.allocA Tryz.zeroValue50) rfl rfl rfl rfl ?_
    rintro _ w4 ⟨B7, rfl, MB7⟩
    refine LW.s (SEv.storeA Tryz.sizeOf50 rfl (.tmp rfl) (.tmp rfl) (by first | rfl | exact Fact.one _ | exact GAct.one _ | exact holdCells_one _ _ | exact hold0_one | (simp [Value.oneCell'])) MB7.blk rfl) rfl rfl rfl ?_
    intro w5 LB7
    have NB7 := MB7.set LB7
    clear LB7 MB7
    have eB7 := NB7.at_
    have zB7 := NB7.size
    replace hcx := hcx.up NB7.up
    replace hS := hS.addB NB7
    change Wx.Sep _ _ _ [_, _, _] at hS
    refine LW.S (CW.region ?_)
    refine LW.pp (PEv.loadA Tryz.isAgg50 Tryz.sizeOf50 rfl (.tmp rfl) ((hS.blk 2 rfl).agg)) ?_
    refine LW.c (enter_call0 (.cons (.tmp rfl) .nil) (Tryz.en45)) rfl rfl rfl rfl (Key_any x _) ?_
    rintro _ w6 ⟨rfl, uw6⟩
    have zw6 := uw6.size
    replace hS := hS.up uw6
    refine LW.A rfl (LW.S (CW.seq ?_))
    cases hq6 : decide (keyB x = []) with
    | true =>
     replace hq6 := of_decide_eq_true hq6
     refine CW.region (LW.M rfl ?_)
     refine LW.pp (PEv.tr (PEv.eqlStr (.tmp rfl) (.const _)) (key_empty hq6)) ?_
     refine LW.M rfl ?_
     refine LW.N ?_
     refine LW.N ?_
     refine LW.N ?_
     refine LW.N ?_
     refine LW.pp (PEv.tr (PEv.pick_or (b := false) (.tmp rfl) (fun hp => absurd (show true = false from hp) (by decide))) (rfl)) ?_
     refine LW.T ?_
     refine CW.cond_true (.tmp rfl) ?_
     refine CW.exit (KW.then_exit (KW.block_hit (KW.then (CW.region ?_))))
     refine LW.pp (PEv.inc (.tmp rfl) (by omega)) ?_
     refine LW.M rfl (LW.nil (KW.round ?_))
     exact ⟨k + 1, ⟨by omega, by rw [best_next hx]; first | (rw [best_skip (.inl hq6)]; exact hS.take 2) | (rw [best_skip (.inr h34)]; exact hS.take 2) | (rw [best_new hno hq7]; exact hS.take 2) | (rw [best_put hno hq7 h47]; exact hS.take 2) | (rw [best_old hno hq7 h47]; exact hS.take 2)⟩, ⟨rfl, rfl, rfl, rfl, rfl, rfl, trivial⟩, by first | omega | (dsimp only; omega)⟩
    | false =>
     replace hq6 := of_decide_eq_false hq6
     refine CW.region (LW.M rfl ?_)
     refine LW.pp (PEv.fa (PEv.eqlStr (.tmp rfl) (.const _)) (key_full hq6)) ?_
     refine LW.M rfl ?_
     refine LW.Y ?_
     refine LW.pp (PEv.fieldAddr (off := 3) Tryz.underlying50 rfl rfl Tryz.sizeOf3 rfl (.tmp rfl)) ?_
     refine LW.Y ?_
     refine LW.pp (PEv.load Tryz.isAgg3 (.tmp rfl) ((hS.blk 2 rfl).celln rfl)) ?_
     refine LW.Y ?_
     refine LW.M rfl ?_
     refine LW.Y ?_
     refine LW.pp (PEv.gtr (.tmp rfl) (.tmp rfl)) ?_
     refine LW.pp (PEv.pick_or (.tmp rfl) (fun hp => (by first | exact .const _ | exact .tmp rfl | exact .cond rfl (by first | assumption | simp_all)))) ?_
     refine LW.T ?_
     refine CW.cond (.tmp rfl) (fun h34 => ?_) (fun h34 => ?_)
     ·first | replace h34 := dT h34 | replace h34 := dF h34 | skip
      skip
      refine CW.exit (KW.then_exit (KW.block_hit (KW.then (CW.region ?_))))
      refine LW.pp (PEv.inc (.tmp rfl) (by omega)) ?_
      refine LW.M rfl (LW.nil (KW.round ?_))
      exact ⟨k + 1, ⟨by omega, by rw [best_next hx]; first | (rw [best_skip (.inl hq6)]; exact hS.take 2) | (rw [best_skip (.inr h34)]; exact hS.take 2) | (rw [best_new hno hq7]; exact hS.take 2) | (rw [best_put hno hq7 h47]; exact hS.take 2) | (rw [best_old hno hq7 h47]; exact hS.take 2)⟩, ⟨rfl, rfl, rfl, rfl, rfl, rfl, trivial⟩, by first | omega | (dsimp only; omega)⟩
     ·first | replace h34 := dT h34 | replace h34 := dF h34 | skip
      have hno : ¬ (keyB x = [] ∨ day < x.Day) := fun h => h.elim hq6 (fun h2 => by simp at h34; omega)
      refine CW.skip (KW.then (CW.seq ?_))
      cases hq7 : fget (bestL (l.take k) day) (keyB x) with
      | none =>
       refine CW.region (LW.M rfl (LW.M rfl ?_))
       refine LW.pp (Ms.PEv.lookupNo Tryz.underlying82 Tryz.underlying9 Tryz.zeroValue50 (.tmp rfl) (.tmp rfl) (hS.get 1 rfl) (fget_none hq7)) ?_
       refine LW.M rfl (LW.pp (PEv.extract (.tmp rfl) rfl) (LW.pp (PEv.extract (.tmp rfl) rfl) ?_))
       refine LW.r (REv.allocA Tryz.zeroValue50) rfl rfl rfl rfl ?_
       rintro _ w7 ⟨B9, rfl, MB9⟩
       refine LW.s (SEv.storeA Tryz.sizeOf50 rfl (.tmp rfl) (.tmp rfl) (by first | rfl | exact Fact.one _ | exact GAct.one _ | exact holdCells_one _ _ | exact hold0_one | (simp [Value.oneCell'])) MB9.blk rfl) rfl rfl rfl ?_
       intro w8 LB9
       have NB9 := MB9.set LB9
       clear LB9 MB9
       have eB9 := NB9.at_
       have zB9 := NB9.size
       replace hS := hS.addB NB9
       change Wx.Sep _ _ _ [_, _, _, _] at hS
       refine LW.A rfl (LW.S (CW.region (LW.M rfl ?_)))
       refine LW.pp (PEv.tr (PEv.not (.tmp rfl)) (rfl)) ?_
       refine LW.M rfl ?_
       refine LW.N ?_
       refine LW.N ?_
       refine LW.N ?_
       refine LW.pp (PEv.tr (PEv.pick_or (b := false) (.tmp rfl) (fun hp => absurd (show true = false from hp) (by decide))) (rfl)) ?_
       refine LW.T ?_
       refine CW.cond_true (.tmp rfl) ?_
       refine CW.region (LW.M rfl (LW.M rfl ?_))
       refine LW.pp (PEv.loadA Tryz.isAgg50 Tryz.sizeOf50 rfl (.tmp rfl) ((hS.blk 2 rfl).agg)) ?_
       refine LW.s (Ms.SEv.mapUpdate Tryz.underlying82 Tryz.underlying9 (.tmp rfl) (.tmp rfl) (.tmp rfl) (hS.get 1 rfl)) rfl rfl rfl ?_
       rintro w9 ⟨Mu, Ku, zu⟩
       rw [encM_set] at Mu
       replace hS := hS.stp 1 rfl (Ms.stp_set Mu Ku)
       change Wx.Sep _ _ _ [_, _, _, _] at hS
       refine LW.nil (KW.inBlock (KW.then (CW.region ?_)))
       refine LW.pp (PEv.inc (.tmp rfl) (by omega)) ?_
       refine LW.M rfl (LW.nil (KW.round ?_))
       exact ⟨k + 1, ⟨by omega, by rw [best_next hx]; first | (rw [best_skip (.inl hq6)]; exact hS.take 2) | (rw [best_skip (.inr h34)]; exact hS.take 2) | (rw [best_new hno hq7]; exact hS.take 2) | (rw [best_put hno hq7 h47]; exact hS.take 2) | (rw [best_old hno hq7 h47]; exact hS.take 2)⟩, ⟨rfl, rfl, rfl, rfl, rfl, rfl, trivial⟩, by first | omega | (dsimp only; omega)⟩
      | some old =>
       refine CW.region (LW.M rfl (LW.M rfl ?_))
       refine LW.pp (Ms.PEv.lookupYes Tryz.underlying82 Tryz.underlying9 (.tmp rfl) (.tmp rfl) (hS.get 1 rfl) (fget_some hq7)) ?_
       refine LW.M rfl (LW.pp (PEv.extract (.tmp rfl) rfl) (LW.pp (PEv.extract (.tmp rfl) rfl) ?_))
       refine LW.r (REv.allocA Tryz.zeroValue50) rfl rfl rfl rfl ?_
       rintro _ w10 ⟨B9, rfl, MB9⟩
       refine LW.s (SEv.storeA Tryz.sizeOf50 rfl (.tmp rfl) (.tmp rfl) (by first | rfl | exact Fact.one _ | exact GAct.one _ | exact holdCells_one _ _ | exact hold0_one | (simp [Value.oneCell'])) MB9.blk rfl) rfl rfl rfl ?_
       intro w11 LB9
       have NB9 := MB9.set LB9
       clear LB9 MB9
       have eB9 := NB9.at_
       have zB9 := NB9.size
       replace hS := hS.addB NB9
       change Wx.Sep _ _ _ [_, _, _, _] at hS
       refine LW.A rfl (LW.S (CW.region (LW.M rfl ?_)))
       refine LW.pp (PEv.fa (PEv.not (.tmp rfl)) (rfl)) ?_
       refine LW.M rfl ?_
       refine LW.Y ?_
       refine LW.pp (PEv.loadA Tryz.isAgg50 Tryz.sizeOf50 rfl (.tmp rfl) ((hS.blk 2 rfl).agg)) ?_
       refine LW.Y ?_
       refine LW.pp (PEv.loadA Tryz.isAgg50 Tryz.sizeOf50 rfl (.tmp rfl) ((hS.blk 3 rfl).agg)) ?_
       refine LW.Y ?_
       refine LW.c (enter_call0 (.cons (.tmp rfl) (.cons (.tmp rfl) .nil)) (Tryz.en46)) rfl rfl rfl rfl (Prevails_any x old _) ?_
       rintro _ w12 ⟨rfl, uw12⟩
       have zw12 := uw12.size
       replace hS := hS.up uw12
       refine LW.pp (PEv.pick_or (.tmp rfl) (fun hp => (by first | exact .const _ | exact .tmp rfl | exact .cond rfl (by first | assumption | simp_all)))) ?_
       refine LW.T ?_
       refine CW.cond (.tmp rfl) (fun h47 => ?_) (fun h47 => ?_)
       ·first | replace h47 := dT h47 | replace h47 := dF h47 | skip
        replace h47 : prevB x old = true := by simpa using h47
        refine CW.region (LW.M rfl (LW.M rfl ?_))
        refine LW.pp (PEv.loadA Tryz.isAgg50 Tryz.sizeOf50 rfl (.tmp rfl) ((hS.blk 2 rfl).agg)) ?_
        refine LW.s (Ms.SEv.mapUpdate Tryz.underlying82 Tryz.underlying9 (.tmp rfl) (.tmp rfl) (.tmp rfl) (hS.get 1 rfl)) rfl rfl rfl ?_
        rintro w13 ⟨Mu, Ku, zu⟩
        rw [encM_set] at Mu
        replace hS := hS.stp 1 rfl (Ms.stp_set Mu Ku)
        change Wx.Sep _ _ _ [_, _, _, _] at hS
        refine LW.nil (KW.inBlock (KW.then (CW.region ?_)))
        refine LW.pp (PEv.inc (.tmp rfl) (by omega)) ?_
        refine LW.M rfl (LW.nil (KW.round ?_))
        exact ⟨k + 1, ⟨by omega, by rw [best_next hx]; first | (rw [best_skip (.inl hq6)]; exact hS.take 2) | (rw [best_skip (.inr h34)]; exact hS.take 2) | (rw [best_new hno hq7]; exact hS.take 2) | (rw [best_put hno hq7 h47]; exact hS.take 2) | (rw [best_old hno hq7 h47]; exact hS.take 2)⟩, ⟨rfl, rfl, rfl, rfl, rfl, rfl, trivial⟩, by first | omega | (dsimp only; omega)⟩
       ·first | replace h47 := dT h47 | replace h47 := dF h47 | skip
        replace h47 : prevB x old = false := by simpa using h47
        refine CW.skip (KW.inBlock (KW.then (CW.region ?_)))
        refine LW.pp (PEv.inc (.tmp rfl) (by omega)) ?_
        refine LW.M rfl (LW.nil (KW.round ?_))
        exact ⟨k + 1, ⟨by omega, by rw [best_next hx]; first | (rw [best_skip (.inl hq6)]; exact hS.take 2) | (rw [best_skip (.inr h34)]; exact hS.take 2) | (rw [best_new hno hq7]; exact hS.take 2) | (rw [best_put hno hq7 h47]; exact hS.take 2) | (rw [best_old hno hq7 h47]; exact hS.take 2)⟩, ⟨rfl, rfl, rfl, rfl, rfl, rfl, trivial⟩, by first | omega | (dsimp only; omega)⟩
   ·first | replace h22 := dT h22 | replace h22 := dF h22 | skip
    refine CW.exit (KW.then_exit (KW.then_exit (KW.block_hit (KW.then (CW.seq ?_)))))
    have hkl : k = l.length := by simp at h22; omega
    subst hkl
    rw [List.take_length] at hS
    obtain ⟨M, hM⟩ : ∃ M, M = bestL l day := ⟨_, rfl⟩
    rw [← hM] at hS
    have hMo := (best_ok day l).1
    have hMl := (best_ok day l).2
    rw [← hM] at hMo hMl
    refine CW.region ?_
    refine LW.r (REv.allocA Tryz.zeroValue24) rfl rfl rfl rfl ?_
    rintro _ w14 ⟨B11, rfl, NB11⟩
    have eB11 := NB11.at_
    have zB11 := NB11.size
    replace hS := hS.addB NB11
    change Wx.Sep _ _ _ [_, _, _] at hS
    refine LW.S (CW.region ?_)
    refine LW.c (enter_call0 .nil (Tryz.en47)) rfl rfl rfl rfl (kinds_any _) ?_
    rintro _ w15 ⟨bk, rfl, hKm, hKb, uw15⟩
    have zw15 := uw15.size
    replace hS := hS.add uw15 (A' := aIMap bk (keyT KdV 11)) (hKm) (fun i (e : i = bk) => by omega)
    change Wx.Sep _ _ _ [_, _, _, _] at hS
    refine LW.A rfl (LW.S (CW.seq ?_))
    have hLn := lists_nil 50 19 Fact.cells 11 w15
    replace hS := hS.add (Up.refl _) (A' := aAnd (lists 50 19 Fact.cells (List.replicate 11 (.slice none 0 0)) (List.replicate 11 ([] : List Fact)))) hLn.1 (fun i h => absurd h (hLn.2 i))
    rw [← byK_nil] at hS
    change Wx.Sep _ _ _ [_, _, _, _, _] at hS
    refine CW.region (LW.M rfl ?_)
    refine LW.r (Ms.REv.range Tryz.underlying82 (.tmp rfl) (hS.get 1 rfl)) rfl rfl rfl rfl ?_
    rintro _ w16 ⟨r54, rfl, hR_, uR, eR, zR⟩
    replace hS := hS.stp 1 rfl (Ms.stp_range hR_ uR eR)
    change Wx.Sep _ _ _ [_, _, _, _, _] at hS
    clear hR_
    refine LW.T (CW.block ?_)
    refine CW.loopB (σ := List Fact × List Go.Value) (fun s w => (∀ f ∈ s.1, (keyB f, f) ∈ M) ∧ ((s.1.map keyB).Nodup) ∧ (s.2.length = 11) ∧ (Wx.Sep no w0 w [aBlk B4 #[.slice none 0 0, .slice none 0 0, .slice none 0 0, .slice none 0 0, .slice none 0 0, .slice none 0 0, .slice none 0 0, .slice none 0 0, .slice none 0 0, .slice none 0 0, .slice none 0 0] 24, Ms.aIRng B18 r54 (encM M) (s.1.map keyB), aBlk B11 s.2.toArray 24, aIMap bk (keyT KdV 11), aAnd (lists 50 19 Fact.cells s.2 (byK [] s.1))])) (fun s => []) ([(4, .eq _), (11, .eq _), (12, .eq _), (54, .eq _)]) (fun s => M.length - s.1.length) ([], List.replicate 11 (.slice none 0 0)) ?_ ⟨rfl, rfl, rfl, rfl, trivial⟩ ?_
    ·exact ⟨fun f h => by simp at h, List.nodup_nil, rfl, hS⟩
    ·rintro ⟨ds, vs⟩ w17 ⟨hds, hdn, hvl, hS⟩
     dsimp only at hds hdn hvl hS
     refine CW.S ?_
     refine LW.r (Ms.REv.next (.tmp rfl) (hS.get 1 rfl)) rfl rfl rfl rfl ?_
     rintro _ w18 (⟨rfl, rfl, hPm⟩ | ⟨k0, u0, rfl, hNx⟩)
     ·skip
      refine LW.pp (PEv.extract (.tmp rfl) rfl) (LW.S ?_)
      refine CW.cond_false (.tmp rfl) ?_
      refine CW.exit (KW.then_exit (KW.then_exit (KW.block_hit (KW.then (CW.seq (CW.seq ?_))))))
      have hPd := hPm
      refine CW.region (LW.M rfl ?_)
      refine LW.r (REv.range Tryz.underlying85 (.tmp rfl) (hS.get 3 rfl)) rfl rfl rfl rfl ?_
      rintro _ w19 ⟨r77, rfl, hR_, uR, eR, zR⟩
      replace hS := hS.stp 3 rfl (stp_range hR_ uR eR)
      change Wx.Sep _ _ _ [_, _, _, _, _] at hS
      clear hR_
      refine LW.T (CW.block ?_)
      refine CW.loopB (σ := List Int) (fun s w => (s.Nodup ∧ ∀ k ∈ s, 1 ≤ k ∧ k ≤ 11) ∧ (Wx.Sep no w0 w [aBlk B4 #[.slice none 0 0, .slice none 0 0, .slice none 0 0, .slice none 0 0, .slice none 0 0, .slice none 0 0, .slice none 0 0, .slice none 0 0, .slice none 0 0, .slice none 0 0, .slice none 0 0] 24, Ms.aIRng B18 r54 (encM M) (ds.map keyB), aBlk B11 vs.toArray 24, aIRng bk r77 (keyT KdV 11) s, aAnd (lists 50 19 Fact.cells vs (byK s ds))])) (fun s => []) ([(4, .eq _), (11, .eq _), (77, .eq _)]) (fun s => 11 - s.length) [] ?_ ⟨rfl, rfl, rfl, trivial⟩ ?_
      ·exact ⟨⟨List.nodup_nil, fun k h => by simp at h⟩, hS⟩
      ·rintro dn w20 ⟨hdk, hS⟩
       refine CW.S ?_
       refine LW.r (REv.next (.tmp rfl) (hS.get 3 rfl)) rfl rfl rfl rfl ?_
       rintro _ w21 (⟨rfl, rfl, hPm⟩ | ⟨kk, u0, rfl, hNx⟩)
       ·skip
        refine LW.pp (PEv.extract (.tmp rfl) rfl) (LW.S ?_)
        refine CW.cond_false (.tmp rfl) ?_
        refine CW.exit (KW.then_exit (KW.then_exit (KW.block_hit (KW.then (CW.seq ?_)))))
        obtain ⟨v0, v1, v2, v3, v4, v5, v6, v7, v8, v9, v10, rfl⟩ := eleven_split hvl
        have hv1 := lists_one (hS.get 4 rfl) (by rw [hvl, byK_len])
        refine CW.region ?_
        refine LW.pp (PEv.loadA Tryz.isAgg24 Tryz.sizeOf24 rfl (.tmp rfl) ((hS.blk 2 rfl).agg)) ?_
        refine LW.s (SEv.storeA Tryz.sizeOf24 rfl (.tmp rfl) (.tmp rfl) (all_one hv1) (hS.blk 0 rfl) rfl) rfl rfl rfl ?_
        intro w22 Nw22
        have zw22 := Nw22.size
        replace hS := hS.putB 0 rfl Nw22
        change Wx.Sep _ _ _ [_, _, _, _, _] at hS
        refine LW.T (CW.ret ?_)
        refine KW.retA rfl rfl Tryz.isAgg24 Tryz.sizeOf24 rfl ((hS.blk 0 rfl).agg) ⟨_, rfl, ?_⟩
        have hOw := hS.get 4 rfl
        have hin : ∀ k : Nat, k < 11 → ((k + 1 : Nat) : Int) ∈ dn := fun k hk => hPm.symm.subset (List.mem_map.2 ⟨(((k + 1 : Nat) : Int), KdV ((k + 1 : Nat) : Int)), keyT_mem.2 ⟨by omega, by omega, rfl⟩, rfl⟩)
        exact ⟨_, ds, rfl, ⟨v0, v1, v2, v3, v4, v5, v6, v7, v8, v9, v10, rfl, lists_sl hOw (j := 0) rfl (by decide) (hin 0 (by decide)), lists_sl hOw (j := 1) rfl (by decide) (hin 1 (by decide)), lists_sl hOw (j := 2) rfl (by decide) (hin 2 (by decide)), lists_sl hOw (j := 3) rfl (by decide) (hin 3 (by decide)), lists_sl hOw (j := 4) rfl (by decide) (hin 4 (by decide)), lists_sl hOw (j := 5) rfl (by decide) (hin 5 (by decide)), lists_sl hOw (j := 6) rfl (by decide) (hin 6 (by decide)), lists_sl hOw (j := 7) rfl (by decide) (hin 7 (by decide)), lists_sl hOw (j := 8) rfl (by decide) (hin 8 (by decide)), lists_sl hOw (j := 9) rfl (by decide) (hin 9 (by decide)), lists_sl hOw (j := 10) rfl (by decide) (hin 10 (by decide))⟩, fun f hf => hM ▸ hds f hf, by rw [encM_keys] at hPd; exact hM ▸ hPd, lists_base (by rw [byK_len]; rfl) (fun i hi => (hS.foot 4 rfl i hi).resolve_left fun h => h), hS.upd⟩
       ·skip
        have zw21 := hNx.size
        replace hS := hS.stp 3 rfl (stp_next hNx)
        change Wx.Sep _ _ _ [_, _, _, _, _] at hS
        obtain ⟨hk1, hk2, hu0⟩ := keyT_mem.1 hNx.mem
        subst hu0
        have hfr2 := hNx.fresh
        have hkk1 : 1 ≤ kk ∧ kk ≤ 11 := ⟨hk1, by omega⟩
        replace hk2 : kk ≤ 11 := by omega
        obtain ⟨j, hj⟩ : ∃ j, j = (kk - 1).toNat := ⟨_, rfl⟩
        have hj11 : j < 11 := by omega
        have hkk2 : kk = ((j + 1 : Nat) : Int) := by omega
        have hdl := nodup_le hds hdn
        obtain ⟨v, hvj⟩ := getElem?_of_lt (xs := vs) (i := j) (by omega)
        have hdk2 : (dn ++ [kk]).Nodup ∧ ∀ k ∈ dn ++ [kk], 1 ≤ k ∧ k ≤ 11 := ⟨List.nodup_append.2 ⟨hdk.1, by simp, fun a ha c hc => by simp at hc; subst hc; exact fun e => hfr2 (e ▸ ha)⟩, fun k hk => (List.mem_append.1 hk).elim (hdk.2 k) (fun h => by cases List.mem_singleton.1 h; exact hkk1)⟩
        refine LW.pp (PEv.extract (.tmp rfl) rfl) (LW.S ?_)
        refine CW.cond_true (.tmp rfl) ?_
        refine CW.skip (KW.then (CW.block (CW.seq ?_)))
        skip
        refine CW.region ?_
        refine LW.r (REv.entry (.tmp rfl) hNx.entry) rfl rfl rfl rfl ?_
        rintro _ _ ⟨rfl, rfl⟩
        refine LW.pp (PEv.val (v' := .agg #[.func (.func (listFn kk)) #[] #[], .func (.func (ordFn kk)) #[] #[]]) (PEv.extract (.tmp rfl) rfl) rfl) ?_
        refine LW.r (REv.allocA Tryz.zeroValue91) rfl rfl rfl rfl ?_
        rintro _ w23 ⟨B17, rfl, MB17⟩
        refine LW.s (SEv.storeA Tryz.sizeOf91 rfl (.tmp rfl) (.tmp rfl) (by first | rfl | exact Fact.one _ | exact GAct.one _ | exact holdCells_one _ _ | exact hold0_one | (simp [Value.oneCell'])) MB17.blk rfl) rfl rfl rfl ?_
        intro w24 LB17
        have NB17 := MB17.set LB17
        clear LB17 MB17
        have eB17 := NB17.at_
        have zB17 := NB17.size
        replace hS := hS.addB NB17
        change Wx.Sep _ _ _ [_, _, _, _, _, _] at hS
        refine LW.T ?_
        refine CW.free 7 [.eq (.pointer (some ⟨B17, 0, none⟩)), .eq (.func (.func (listFn kk)) #[] #[]), .eq (.pointer (some ⟨B11, j, none⟩)), .eq (.pointer (some ⟨B11, j, none⟩)), .eq (v), .eq (.pointer (some ⟨B17, 1, none⟩)), .eq (.func (.func (ordFn kk)) #[] #[])] [86, 88] (by kernel_rfl) rfl (by kernel_rfl) (by kernel_rfl) (by kernel_rfl) (by kernel_rfl) (by kernel_rfl) (by kernel_rfl) (by kernel_rfl) ⟨PhU.eq _, PhU.eq _, PhU.eq _, PhU.eq _, PhU.eq _, PhU.eq _, PhU.eq _, trivial⟩ ?_ ?_
        ·intro W hU0
         have hU := (Up.drew w24).trans hU0
         refine allL.cons ⟨rfl, TU.p (PEv.fieldAddr (off := 0) Tryz.underlying91 rfl rfl Tryz.sizeOf88 rfl (.tmp rfl)) rfl⟩ ?_
         refine allL.cons ⟨rfl, TU.p (PEv.load Tryz.isAgg88 (.tmp rfl) (((hS.blk 5 rfl).up hU).celln rfl)) rfl⟩ ?_
         refine allL.cons ⟨rfl, TU.c (enter_callv (.tmp rfl) (.cons (.tmp rfl) .nil) (list_en kk hk1 hk2)) (list_any kk hk1 hk2 B11 _) (by rintro _ W1 ⟨rfl, u⟩; exact ⟨u, by rw [hj]; rfl⟩)⟩ ?_
         refine allL.cons ⟨rfl, TU.p (PEv.nilCheck (.tmp rfl)) rfl⟩ ?_
         refine allL.cons ⟨rfl, TU.p (PEv.load Tryz.isAgg22 (.tmp rfl) (((hS.blk 2 rfl).up hU).cell (by simpa using hvj))) rfl⟩ ?_
         refine allL.cons ⟨rfl, TU.p (PEv.fieldAddr (off := 1) Tryz.underlying91 rfl rfl Tryz.sizeOf89 rfl (.tmp rfl)) rfl⟩ ?_
         refine allL.cons ⟨rfl, TU.p (PEv.load Tryz.isAgg89 (.tmp rfl) (((hS.blk 5 rfl).up hU).celln rfl)) rfl⟩ ?_
         exact allL.nil
        ·intro w25 g hU0 hg
         have hU := (Up.drew w24).trans hU0
         have zw25 := hU.size
         replace hS := hS.up hU
         have e86 : g 86 = v := hg 4 _ 86 (by decide) rfl rfl
         have e88 : g 88 = .func (.func (ordFn kk)) #[] #[] := hg 6 _ 88 (by decide) rfl rfl
         change LW _ _ _ _ _ _ _ _ ((86, .eq (g 86)) :: (88, .eq (g 88)) :: _) _
         rw [e86, e88]
         refine LW.c (enter_call0 (.cons (.tmp rfl) (.cons (.tmp rfl) .nil)) (Tryz.en48)) rfl rfl rfl rfl (sorted_any (ordFn kk) (ordK kk) (ord_en kk hk1 hk2) (fun W x => ord_any kk hk1 hk2 x W) v (lstAt dn ds j) _ (lists_own (hS.get 4 rfl) hvj (byK_get _ _ hj11)) (by have := lst_len dn ds j; omega)) ?_
         rintro _ w26 ⟨rfl, hSo⟩
         replace hS := hS.stp 4 rfl (aAnd_stp (hS.get 4 rfl) (lists_get hvj (byK_get _ _ hj11)) hSo)
         change Wx.Sep _ _ _ [_, _, _, _, _, _] at hS
         rw [lists_set, set_same hvj, hkk2] at hS
         refine LW.nil (KW.inBlock (KW.round ?_))
         exact ⟨dn ++ [kk], ⟨hdk2, by rw [hkk2, ← byK_sort hj11 (by rw [← hkk2]; exact hfr2)]; exact hS.take 5⟩, ⟨rfl, rfl, rfl, trivial⟩, by have := eleven_lt hdk hkk1 hfr2; simp; omega⟩
     ·skip
      have zw18 := hNx.size
      replace hS := hS.stp 1 rfl (Ms.stp_next hNx)
      change Wx.Sep _ _ _ [_, _, _, _, _] at hS
      obtain ⟨⟨kx, x⟩, hmem0, he0⟩ := List.mem_map.1 hNx.mem
      cases he0
      obtain ⟨hkx, hxv⟩ := hMo _ hmem0
      dsimp only at hkx hxv
      subst hkx
      have hmem := hmem0
      have hfr := hNx.fresh
      have hk12 : 1 ≤ x.Kind ∧ x.Kind ≤ 11 := valid_kind hxv
      have hds2 : ∀ f ∈ ds ++ [x], (keyB f, f) ∈ M := fun f hf => (List.mem_append.1 hf).elim (hds f) (fun h => by cases List.mem_singleton.1 h; exact hmem)
      have hdn2 : ((ds ++ [x]).map keyB).Nodup := nodup_snoc hdn hfr
      obtain ⟨j, hj⟩ : ∃ j, j = (x.Kind - 1).toNat := ⟨_, rfl⟩
      have hj11 : j < 11 := by omega
      have hkj : x.Kind = ((j + 1 : Nat) : Int) := by omega
      have hdl := nodup_le hds hdn
      have hdl2 := nodup_lt hds hdn hmem hfr
      refine LW.pp (PEv.extract (.tmp rfl) rfl) (LW.S ?_)
      refine CW.cond_true (.tmp rfl) ?_
      refine CW.skip (KW.then (CW.block (CW.S ?_)))
      refine LW.r (Ms.REv.entry (.tmp rfl) hNx.entry) rfl rfl rfl rfl ?_
      rintro _ _ ⟨rfl, rfl⟩
      refine LW.pp (PEv.extract (.tmp rfl) rfl) ?_
      refine LW.r (REv.allocA Tryz.zeroValue50) rfl rfl rfl rfl ?_
      rintro _ w27 ⟨B14, rfl, MB14⟩
      refine LW.s (SEv.storeA Tryz.sizeOf50 rfl (.tmp rfl) (.tmp rfl) (by first | rfl | exact Fact.one _ | exact GAct.one _ | exact holdCells_one _ _ | exact hold0_one | (simp [Value.oneCell'])) MB14.blk rfl) rfl rfl rfl ?_
      intro w28 LB14
      have NB14 := MB14.set LB14
      clear LB14 MB14
      have eB14 := NB14.at_
      have zB14 := NB14.size
      replace hS := hS.addB NB14
      change Wx.Sep _ _ _ [_, _, _, _, _, _] at hS
      refine LW.S ?_
      cases hq16 : x.Gone with
      | true =>
       have hgn := hq16
       refine CW.region ?_
       refine LW.pp (PEv.fieldAddr (off := 4) Tryz.underlying50 rfl rfl Tryz.sizeOf4 rfl (.tmp rfl)) ?_
       refine LW.pp (PEv.load Tryz.isAgg4 (.tmp rfl) ((hS.blk 5 rfl).celln rfl)) ?_
       refine LW.pp (PEv.fa (PEv.not (.tmp rfl)) (by rw [hq16]; rfl)) ?_
       refine LW.T ?_
       refine CW.cond_false (.tmp rfl) ?_
       refine CW.skip (KW.inBlock (KW.round ?_))
       first | exact ⟨(ds ++ [x], vs.set j v74), ⟨hds2, hdn2, by show (vs.set j v74).length = 11; rw [List.length_set]; exact hvl, by first | (rw [byK_add hgn hj11 hkj, ← lists_set, List.map_append]; exact hS.take 5) | (rw [byK_gone hgn, List.map_append]; exact hS.take 5)⟩, ⟨rfl, rfl, rfl, rfl, trivial⟩, by show M.length - (ds ++ [x]).length < M.length - ds.length; have := nodup_lt hds hdn hmem hfr; simp; omega⟩ | exact ⟨(ds ++ [x], vs), ⟨hds2, hdn2, hvl, by first | (rw [byK_add hgn hj11 hkj, ← lists_set, List.map_append]; exact hS.take 5) | (rw [byK_gone hgn, List.map_append]; exact hS.take 5)⟩, ⟨rfl, rfl, rfl, rfl, trivial⟩, by show M.length - (ds ++ [x]).length < M.length - ds.length; have := nodup_lt hds hdn hmem hfr; simp; omega⟩
      | false =>
       have hgn := hq16
       refine CW.region ?_
       refine LW.pp (PEv.fieldAddr (off := 4) Tryz.underlying50 rfl rfl Tryz.sizeOf4 rfl (.tmp rfl)) ?_
       refine LW.pp (PEv.load Tryz.isAgg4 (.tmp rfl) ((hS.blk 5 rfl).celln rfl)) ?_
       refine LW.pp (PEv.tr (PEv.not (.tmp rfl)) (by rw [hq16]; rfl)) ?_
       refine LW.T ?_
       refine CW.cond_true (.tmp rfl) ?_
       refine CW.S (LW.M rfl ?_)
       refine LW.pp (PEv.fieldAddr (off := 0) Tryz.underlying50 rfl rfl Tryz.sizeOf3 rfl (.tmp rfl)) ?_
       refine LW.pp (PEv.load Tryz.isAgg3 (.tmp rfl) ((hS.blk 5 rfl).celln rfl)) ?_
       refine LW.pp (PEv.val (v' := .agg #[.func (.func (listFn x.Kind)) #[] #[], .func (.func (ordFn x.Kind)) #[] #[]]) (PEv.lookupYes (ok := false) Tryz.underlying85 Tryz.underlying3 (.tmp rfl) (.tmp rfl) (hS.get 3 rfl) (keyT_mem.2 ⟨hk12.1, (show x.Kind ≤ ((11 : Nat) : Int) from by omega), rfl⟩)) rfl) ?_
       refine LW.pp (PEv.field1 (off := 0) Tryz.underlying91 rfl rfl Tryz.isAgg88 (.tmp rfl) rfl) ?_
       refine LW.c (enter_callv (.tmp rfl) (.cons (.tmp rfl) .nil) (list_en x.Kind hk12.1 hk12.2)) rfl rfl rfl rfl (list_any x.Kind hk12.1 hk12.2 B11 _) ?_
       rintro _ w29 ⟨rfl, uw29⟩
       have zw29 := uw29.size
       replace hS := hS.up uw29
       rw [← hj]
       refine LW.A rfl (LW.T ?_)
       obtain ⟨v, hvj⟩ := getElem?_of_lt (xs := vs) (i := j) (by omega)
       refine CW.draws_heavy 6 (fun v w'' => Wx.Sep no w0 w'' [aBlk B4 #[.slice none 0 0, .slice none 0 0, .slice none 0 0, .slice none 0 0, .slice none 0 0, .slice none 0 0, .slice none 0 0, .slice none 0 0, .slice none 0 0, .slice none 0 0, .slice none 0 0] 24, Ms.aIRng B18 r54 (encM M) (ds.map keyB ++ [keyB x]), aBlk B11 vs.toArray 24, aIMap bk (keyT KdV 11), aAnd ((lists 50 19 Fact.cells vs (byK [] ds)).set j (aOwn 50 19 Fact.cells v (lstAt [] ds j ++ [x]))), aBlk B14 x.cells 50]) (by kernel_rfl) (by kernel_rfl) (by kernel_rfl) (by kernel_rfl) (by kernel_rfl) (by kernel_rfl) rfl rfl rfl rfl rfl ?_
       refine HW.pp (PEv.move (.tmp rfl)) ?_
       refine HW.pp (PEv.move (.tmp rfl)) ?_
       refine HW.pp (PEv.nilCheck (.tmp rfl)) ?_
       refine HW.pp (PEv.load Tryz.isAgg22 (.tmp rfl) ((hS.blk 2 rfl).cell (by simpa using hvj))) ?_
       refine HW.pp (PEv.loadA Tryz.isAgg50 Tryz.sizeOf50 rfl (.tmp rfl) ((hS.blk 5 rfl).agg)) ?_
       refine HW.r (p := fun v w => Sl w v 19 (Fact.cells) [x]) (fun _ _ _ h u => Sl.up h u) rfl (fun w hu a ha => let ⟨v, w', h1, h2⟩ := REv.buildSlice (xs := [x]) (enc := Fact.cells) (mk := fun f : Fact => .agg f.cells) Tryz.underlying22 Tryz.sizeOf50 Tryz.zeroValue50 rfl (Nat.le_of_ble_eq_true rfl) (fun _ => rfl) (fun _ => rfl) (.cons (.tmp rfl) .nil) rfl a ha; ⟨v, w', h1, h2.q⟩) rfl ?_
       refine HW.nil ⟨fun a w' hu ha => ?_, ?_⟩
       ·exact (REv.open (d := 73) (p := fun v w => Sl w v 19 Fact.cells [x]) rfl fun vv hv => (REv.appendF (bytes := 160) (i := Tryz.t50) Tryz.underlying22 (by kernel_rfl) rfl rfl rfl rfl (by decide) (fun _ => rfl) Fact.one (.tmp rfl) (.tmp rfl) (lists_own ((hS.up hu).get 4 rfl) hvj (byK_get _ _ hj11)) hv (by have := lst_len [] ds j; simp only [List.length_cons, List.length_nil, maxLen]; omega) (by have := lst_len [] ds j; simp only [List.length_cons, List.length_nil]; omega)).mono fun v' w'' h => (hS.up hu).stp 4 rfl (aAnd_stp ((hS.up hu).get 4 rfl) (lists_get hvj (byK_get _ _ hj11)) h)).y ha
       intro v74 w30 hS
       have hv1 : v74.oneCell' = true := by
        have h := hS.get 4 rfl
        rw [lists_set] at h
        exact lists_one h (by rw [List.length_set, List.length_set, hvl, byK_len]) v74 (List.mem_of_getElem? (i := j) (by rw [List.getElem?_set_self (by omega)]))
       refine LW.pp (PEv.nilCheck (.tmp rfl)) ?_
       refine LW.s (SEv.store Tryz.sizeOf22 (.tmp rfl) (.tmp rfl) hv1 (hS.blk 2 rfl) (by simp; omega)) rfl rfl rfl ?_
       intro w31 Nw31
       have zw31 := Nw31.size
       replace hS := hS.putB 2 rfl (by rw [set_arr] at Nw31; exact Nw31)
       change Wx.Sep _ _ _ [_, _, _, _, _, _] at hS
       refine LW.nil (KW.inBlock (KW.round ?_))
       first | exact ⟨(ds ++ [x], vs.set j v74), ⟨hds2, hdn2, by show (vs.set j v74).length = 11; rw [List.length_set]; exact hvl, by first | (rw [byK_add hgn hj11 hkj, ← lists_set, List.map_append]; exact hS.take 5) | (rw [byK_gone hgn, List.map_append]; exact hS.take 5)⟩, ⟨rfl, rfl, rfl, rfl, trivial⟩, by show M.length - (ds ++ [x]).length < M.length - ds.length; have := nodup_lt hds hdn hmem hfr; simp; omega⟩ | exact ⟨(ds ++ [x], vs), ⟨hds2, hdn2, hvl, by first | (rw [byK_add hgn hj11 hkj, ← lists_set, List.map_append]; exact hS.take 5) | (rw [byK_gone hgn, List.map_append]; exact hS.take 5)⟩, ⟨rfl, rfl, rfl, rfl, trivial⟩, by show M.length - (ds ++ [x]).length < M.length - ds.length; have := nodup_lt hds hdn hmem hfr; simp; omega⟩
end Go.Proofs.YtgffaeachbbjoaaGreatDoor
namespace Go.Wx
theorem sortK_perm {α : Type} {key : α → K2} {l s : List α} (h : l.Perm s) (hd : ∀ x ∈ l, ∀ y ∈ l, key x = key y → x = y) : sortK key l = sortK key s := by
  have hs : sameF key l s := fun k => by
    have hp := h.filter (fun x => key x == k)
    cases e : l.filter (fun x => key x == k) with
    | nil => rw [e] at hp; exact hp.symm.eq_nil
    | cons x r =>
      have all : ∀ y ∈ l.filter (fun x => key x == k), y = x := fun y hy => by
        have hx : x ∈ l.filter (fun x => key x == k) := by rw [e]; exact List.mem_cons_self
        rw [List.mem_filter] at hx hy
        exact hd _ hy.1 _ hx.1 ((eq_of_beq hy.2).trans (eq_of_beq hx.2).symm)
      have h1 : l.filter (fun x => key x == k) = List.replicate (l.filter (fun x => key x == k)).length x := List.eq_replicate_iff.2 ⟨rfl, all⟩
      have h2 : s.filter (fun x => key x == k) = List.replicate (l.filter (fun x => key x == k)).length x := List.eq_replicate_iff.2 ⟨hp.length_eq.symm, fun y hy => all y (hp.symm.subset hy)⟩
      rw [h2, ← h1, e]
  have : StS key l (sortK key s) := ⟨(sortK_sts s).ord, hs.trans (sortK_sts s).same⟩
  exact this.eq.symm
theorem key_of_ord {k : Int} {f g : Fact} (hf : validB f = true) (hg : validB g = true) (hkf : f.Kind = k) (hkg : g.Kind = k) (h : ordK k f = ordK k g) : keyB f = keyB g := by
  have hk := valid_kind hf
  rw [hkf] at hk
  unfold keyB keyL
  rw [if_pos hf, if_pos hg, hkf, hkg]
  have hc : k = 1 ∨ k = 2 ∨ k = 3 ∨ k = 4 ∨ k = 5 ∨ k = 6 ∨ k = 7 ∨ k = 8 ∨ k = 9 ∨ k = 10 ∨ k = 11 := by omega
  rcases hc with rfl | rfl | rfl | rfl | rfl | rfl | rfl | rfl | rfl | rfl | rfl
  · replace h : (f.ID, (0 : Int)) = (g.ID, (0 : Int)) := h
    show encIs [1, f.ID] = encIs [1, g.ID]
    rw [(Prod.mk.inj h).1]
  · replace h : (f.ID, (0 : Int)) = (g.ID, (0 : Int)) := h
    show encIs [2, f.ID] = encIs [2, g.ID]
    rw [(Prod.mk.inj h).1]
  · replace h : (f.ID, (0 : Int)) = (g.ID, (0 : Int)) := h
    show encIs [3, f.ID] = encIs [3, g.ID]
    rw [(Prod.mk.inj h).1]
  · replace h : (f.Wafer, f.Time) = (g.Wafer, g.Time) := h
    show encIs [4, f.Wafer, f.Time] = encIs [4, g.Wafer, g.Time]
    rw [(Prod.mk.inj h).1, (Prod.mk.inj h).2]
  · replace h : (f.Product, (0 : Int)) = (g.Product, (0 : Int)) := h
    show encIs [5, f.Product] = encIs [5, g.Product]
    rw [(Prod.mk.inj h).1]
  · replace h : (f.ID, (0 : Int)) = (g.ID, (0 : Int)) := h
    show encIs [6, f.ID] = encIs [6, g.ID]
    rw [(Prod.mk.inj h).1]
  · replace h : (f.ID, (0 : Int)) = (g.ID, (0 : Int)) := h
    show encIs [7, f.ID] = encIs [7, g.ID]
    rw [(Prod.mk.inj h).1]
  · replace h : (f.Other, f.Parties) = (g.Other, g.Parties) := h
    show encIs [8, f.Other, f.Parties] = encIs [8, g.Other, g.Parties]
    rw [(Prod.mk.inj h).1, (Prod.mk.inj h).2]
  · replace h : (f.ID, (0 : Int)) = (g.ID, (0 : Int)) := h
    show encIs [9, f.ID] = encIs [9, g.ID]
    rw [(Prod.mk.inj h).1]
  · replace h : (f.Recipe, f.Time) = (g.Recipe, g.Time) := h
    show encIs [10, f.Recipe, f.Time] = encIs [10, g.Recipe, g.Time]
    rw [(Prod.mk.inj h).1, (Prod.mk.inj h).2]
  · replace h : (f.ID, (0 : Int)) = (g.ID, (0 : Int)) := h
    show encIs [11, f.ID] = encIs [11, g.ID]
    rw [(Prod.mk.inj h).1]
theorem fset_keys (m : FMap) (k : List UInt8) (f : Fact) : (fset m k f).map (·.1) = if k ∈ m.map (·.1) then m.map (·.1) else m.map (·.1) ++ [k] := by
  unfold fset
  split
  · rw [List.map_map]
    apply List.map_congr_left
    intro p _
    simp only [Function.comp]
    split
    · rename_i e; exact e.symm
    · rfl
  · simp
theorem fset_nodup {m : FMap} (h : (m.map (·.1)).Nodup) (k : List UInt8) (f : Fact) : ((fset m k f).map (·.1)).Nodup := by
  rw [fset_keys]
  split
  · exact h
  · rename_i hn
    rw [List.nodup_append]
    exact ⟨h, by simp, fun a ha c hc => by cases List.mem_singleton.1 hc; exact fun e => hn (e ▸ ha)⟩
theorem bestStep_nodup {m : FMap} (h : (m.map (·.1)).Nodup) (day : Int) (f : Fact) : ((bestStep day m f).map (·.1)).Nodup := by
  unfold bestStep
  split
  · exact h
  · split
    · exact fset_nodup h _ _
    · split
      · exact fset_nodup h _ _
      · exact h
theorem best_nodup (l : List Fact) (day : Int) : ((bestL l day).map (·.1)).Nodup := by
  have : ∀ (l : List Fact) (m : FMap), (m.map (·.1)).Nodup → ((l.foldl (bestStep day) m).map (·.1)).Nodup := by
    intro l
    induction l with
    | nil => exact fun m h => h
    | cons x l ih => exact fun m h => ih _ (bestStep_nodup h day x)
  exact this l [] List.nodup_nil
theorem nodup_fst {m : FMap} (h : (m.map (·.1)).Nodup) {k : List UInt8} {f g : Fact} (hf : (k, f) ∈ m) (hg : (k, g) ∈ m) : f = g := by
  induction m with
  | nil => cases hf
  | cons p m ih =>
    rw [List.map_cons, List.nodup_cons] at h
    rcases List.mem_cons.1 hf with e | hf' <;> rcases List.mem_cons.1 hg with e' | hg'
    · rw [← e'] at e; cases e; rfl
    · exact absurd (List.mem_map.2 ⟨_, hg', by rw [← e]⟩) h.1
    · exact absurd (List.mem_map.2 ⟨_, hf', by rw [← e']⟩) h.1
    · exact ih h.2 hf' hg'
def factsM (m : FMap) : List Fact := m.map (·.2)
theorem factsM_mem {m : FMap} (h : MOk m) {f : Fact} : f ∈ factsM m ↔ (keyB f, f) ∈ m := by
  constructor
  · intro hf
    obtain ⟨⟨k, g⟩, hp, e⟩ := List.mem_map.1 hf
    have e : g = f := e
    subst e
    have := (h _ hp).1
    have this : k = keyB g := this
    rw [← this]; exact hp
  · exact fun hf => List.mem_map.2 ⟨_, hf, rfl⟩
theorem factsM_keys {m : FMap} (h : MOk m) : (factsM m).map keyB = m.map (·.1) := by
  unfold factsM
  rw [List.map_map]
  apply List.map_congr_left
  intro p hp
  exact (h p hp).1.symm
theorem nodup_of_map {α β : Type} {f : α → β} : ∀ {l : List α}, (l.map f).Nodup → l.Nodup
  | [], _ => List.nodup_nil
  | x :: l, h => by
    rw [List.map_cons, List.nodup_cons] at h
    exact List.nodup_cons.2 ⟨fun hm => h.1 (List.mem_map.2 ⟨x, hm, rfl⟩), nodup_of_map h.2⟩
theorem perm_of_mem {α : Type} {l s : List α} (hl : l.Nodup) (hs : s.Nodup) (h : ∀ x, x ∈ l ↔ x ∈ s) : l.Perm s := (List.perm_ext_iff_of_nodup hl hs).2 h
theorem best_perm {ds : List Fact} {m : FMap} (hm : MOk m) (hn : (m.map (·.1)).Nodup) (h : ∀ f ∈ ds, (keyB f, f) ∈ m) (hp : (ds.map keyB).Perm (m.map (·.1))) : ds.Perm (factsM m) := by
  refine perm_of_mem (nodup_of_map (f := keyB) (hp.nodup_iff.2 hn)) (nodup_of_map (f := keyB) (by rw [factsM_keys hm]; exact hn)) fun x => ?_
  rw [factsM_mem hm]
  refine ⟨h x, fun hx => ?_⟩
  obtain ⟨y, hy, e⟩ := List.mem_map.1 (hp.symm.subset (List.mem_map.2 ⟨_, hx, rfl⟩))
  have e : keyB y = keyB x := e
  have := h y hy
  rw [e] at this
  rw [nodup_fst hn hx this]; exact hy
theorem mem_of_key {m : FMap} (hm : MOk m) (hn : (m.map (·.1)).Nodup) {f g : Fact} (hf : f ∈ factsM m) (hg : g ∈ factsM m) (e : keyB f = keyB g) : f = g := by
  rw [factsM_mem hm] at hf hg
  rw [e] at hf
  exact nodup_fst hn hf hg
theorem lst_perm {m : FMap} (hm : MOk m) (hn : (m.map (·.1)).Nodup) {ds : List Fact} (h : ds.Perm (factsM m)) (dn : List Int) (j : Nat) (hj : ((j + 1 : Nat) : Int) ∈ dn) : lstAt dn ds j = lstAt dn (factsM m) j := by
  unfold lstAt
  rw [if_pos hj, if_pos hj]
  refine sortK_perm (h.filter _) fun x hx y hy e => ?_
  rw [List.mem_filter] at hx hy
  have hxm := h.subset hx.1
  have hym := h.subset hy.1
  have vx := (hm _ ((factsM_mem hm).1 hxm)).2
  have vy := (hm _ ((factsM_mem hm).1 hym)).2
  simp only [Bool.and_eq_true, decide_eq_true_eq] at hx hy
  exact mem_of_key hm hn hxm hym (key_of_ord vx vy hx.2.2 hy.2.2 e)
def ofB (l : List Fact) (day : Int) : Base := baseL (factsM (bestL l day))
theorem ofB_eq {ds : List Fact} {l : List Fact} {day : Int} (h : ∀ f ∈ ds, (keyB f, f) ∈ bestL l day) (hp : (ds.map keyB).Perm ((bestL l day).map (·.1))) : baseL ds = ofB l day := by
  have hm := (best_ok day l).1
  have hn := best_nodup l day
  have h1 := best_perm hm hn h hp
  unfold ofB baseL
  rw [lst_perm hm hn h1 [1] 0 (by decide), lst_perm hm hn h1 [2] 1 (by decide), lst_perm hm hn h1 [3] 2 (by decide), lst_perm hm hn h1 [4] 3 (by decide), lst_perm hm hn h1 [5] 4 (by decide), lst_perm hm hn h1 [6] 5 (by decide), lst_perm hm hn h1 [7] 6 (by decide), lst_perm hm hn h1 [8] 7 (by decide), lst_perm hm hn h1 [9] 8 (by decide), lst_perm hm hn h1 [10] 9 (by decide), lst_perm hm hn h1 [11] 10 (by decide)]
end Go.Wx
namespace Go.Proofs.YtgffaeachbbjoaaGreatDoor
open Go.Wx Go.RowKit
theorem Of_any (ad : Option Addr) (cp : Nat) (l : List Fact) (day : Int) (w : World) (hE0 : Els w ad 19 Fact.cells l) (hl : l.length ≤ 100000) : Ret Tryz.prog 23 #[.slice ad l.length cp, vi day] w fun r w' => ∃ bc, r = .agg bc ∧ BaseC w' bc (ofB l day) ∧ Up w w' :=
  (Of_walk ad cp l day w hE0 hl).mono fun _ _ ⟨bc, _, e, hB, h1, h2, _, u⟩ => ⟨bc, e, ofB_eq h1 h2 ▸ hB, u⟩
theorem Of_own (ad : Option Addr) (cp : Nat) (l : List Fact) (day : Int) (w : World) (hE0 : Els w ad 19 Fact.cells l) (hl : l.length ≤ 100000) : Ret Tryz.prog 23 #[.slice ad l.length cp, vi day] w fun r w' => ∃ bc, r = .agg bc ∧ BaseC w' bc (ofB l day) ∧ BaseB w.heap.size bc ∧ Up w w' :=
  (Of_walk ad cp l day w hE0 hl).mono fun _ _ ⟨bc, _, e, hB, h1, h2, h3, u⟩ => ⟨bc, e, ofB_eq h1 h2 ▸ hB, h3, u⟩
end Go.Proofs.YtgffaeachbbjoaaGreatDoor
end
