import Derived.Test.YthfjagphcekcbaaGreatNums
import Derived.Test.YthfjagphcekcbaaGreatBy
import Derived.Test.YthfjagphcekcbaaGreatMl
import Derived.Test.YthfjagphcekcbaaGreatBx
-- Ba1
namespace Go.Wx

/-- a field of a fact: its place, its limits -/
structure Fld where
  off : Nat
  lo : Int
  hi : Int
def num1 (o : Nat) : Fld := ⟨o, 1, 1000000⟩
def fIds : List Fld := [num1 1]
def fRec : List Fld := [num1 14, num1 15]
def fPlace : List Fld := [⟨11, 0, 59⟩, ⟨12, 0, 3⟩]
def fWhen : Fld := ⟨5, 0, 1000000⟩
def fSpan : List Fld := [fWhen, ⟨6, 0, 1000000⟩]
def fNamed : List Fld := [⟨7, 0, 1000000⟩, ⟨9, 0, 1000000⟩, ⟨11, 0, 60⟩, ⟨12, 0, 4⟩, ⟨13, 0, 40⟩, ⟨14, 0, 1000000⟩, ⟨15, 0, 1000000⟩]
def fWho : Fld := ⟨17, 1, 255⟩
def fRes : Fld := ⟨16, -1000000, 1000000⟩
theorem take_flat {α : Type} {xss : List (List α)} {k : Nat} {ys : List α} (h : xss[k]? = some ys) : (xss.take (k + 1)).flatten = (xss.take k).flatten ++ ys := by
  obtain ⟨hk, e⟩ := List.getElem?_eq_some_iff.1 h
  rw [List.take_add_one, h]; simp
theorem take_flat_len {α : Type} (xss : List (List α)) (k : Nat) : ((xss.take k).flatten).length ≤ xss.flatten.length := by
  have : xss.flatten = (xss.take k).flatten ++ (xss.drop k).flatten := by rw [← List.flatten_append, List.take_append_drop]
  rw [this, List.length_append]; omega

end Go.Wx
namespace Go.Proofs.YthfjagphcekcbaaGreat
open Go.Wx Go.RowKit
def fnOf : Nat → FuncId := fun o => match o with
  | 1 => 96
  | 5 => 127
  | 6 => 126
  | 7 => 100
  | 8 => 113
  | 9 => 101
  | 10 => 114
  | 11 => 102
  | 12 => 103
  | 13 => 104
  | 14 => 97
  | 15 => 98
  | 16 => 106
  | 17 => 105
  | _ => 0
def Fld.cells (x : Fld) : Array Go.Value := #[.func (.func (fnOf x.off)) #[] #[], vi x.lo, vi x.hi]
theorem Fld.one (x : Fld) : (Fld.cells x).all (·.oneCell') = true := by simp [Fld.cells, Value.oneCell']
theorem get_id (b : Nat) (w : World) : Ret Tryz.prog 96 #[.pointer (some ⟨b, 0, none⟩)] w fun r w' => r = .pointer (some ⟨b, 1, none⟩) ∧ Up w w' := by
  have hW := Up.refl w
  refine Calls_start (n := 6) (m := 9) Tryz.func96 rfl rfl rfl ?_
  refine CW.seq (CW.region (LW.p (PEv.assign (.const _)) rfl rfl rfl (LW.nil (KW.then (CW.seq (CW.region (LW.p (PEv.move (.tmp rfl)) rfl rfl rfl ?_)))))))
  refine LW.p (PEv.nilCheck (.tmp rfl)) rfl rfl rfl ?_
  refine LW.p (PEv.fieldAddr (off := 1) Tryz.underlying46 rfl rfl Tryz.sizeOf3 rfl (.tmp rfl)) rfl rfl rfl ?_
  refine LW.p (PEv.assign (.tmp rfl)) rfl rfl rfl (LW.nil (KW.then (CW.ret ?_)))
  refine KW.ret1 rfl rfl ⟨_, rfl, ?_⟩
  exact ⟨rfl, hW⟩

theorem get_time (b : Nat) (w : World) : Ret Tryz.prog 127 #[.pointer (some ⟨b, 0, none⟩)] w fun r w' => r = .pointer (some ⟨b, 5, none⟩) ∧ Up w w' := by
  have hW := Up.refl w
  refine Calls_start (n := 6) (m := 9) Tryz.func127 rfl rfl rfl ?_
  refine CW.seq (CW.region (LW.p (PEv.assign (.const _)) rfl rfl rfl (LW.nil (KW.then (CW.seq (CW.region (LW.p (PEv.move (.tmp rfl)) rfl rfl rfl ?_)))))))
  refine LW.p (PEv.nilCheck (.tmp rfl)) rfl rfl rfl ?_
  refine LW.p (PEv.fieldAddr (off := 5) Tryz.underlying46 rfl rfl Tryz.sizeOf3 rfl (.tmp rfl)) rfl rfl rfl ?_
  refine LW.p (PEv.assign (.tmp rfl)) rfl rfl rfl (LW.nil (KW.then (CW.ret ?_)))
  refine KW.ret1 rfl rfl ⟨_, rfl, ?_⟩
  exact ⟨rfl, hW⟩

theorem get_until (b : Nat) (w : World) : Ret Tryz.prog 126 #[.pointer (some ⟨b, 0, none⟩)] w fun r w' => r = .pointer (some ⟨b, 6, none⟩) ∧ Up w w' := by
  have hW := Up.refl w
  refine Calls_start (n := 6) (m := 9) Tryz.func126 rfl rfl rfl ?_
  refine CW.seq (CW.region (LW.p (PEv.assign (.const _)) rfl rfl rfl (LW.nil (KW.then (CW.seq (CW.region (LW.p (PEv.move (.tmp rfl)) rfl rfl rfl ?_)))))))
  refine LW.p (PEv.nilCheck (.tmp rfl)) rfl rfl rfl ?_
  refine LW.p (PEv.fieldAddr (off := 6) Tryz.underlying46 rfl rfl Tryz.sizeOf3 rfl (.tmp rfl)) rfl rfl rfl ?_
  refine LW.p (PEv.assign (.tmp rfl)) rfl rfl rfl (LW.nil (KW.then (CW.ret ?_)))
  refine KW.ret1 rfl rfl ⟨_, rfl, ?_⟩
  exact ⟨rfl, hW⟩

theorem get_wafer (b : Nat) (w : World) : Ret Tryz.prog 100 #[.pointer (some ⟨b, 0, none⟩)] w fun r w' => r = .pointer (some ⟨b, 7, none⟩) ∧ Up w w' := by
  have hW := Up.refl w
  refine Calls_start (n := 6) (m := 9) Tryz.func100 rfl rfl rfl ?_
  refine CW.seq (CW.region (LW.p (PEv.assign (.const _)) rfl rfl rfl (LW.nil (KW.then (CW.seq (CW.region (LW.p (PEv.move (.tmp rfl)) rfl rfl rfl ?_)))))))
  refine LW.p (PEv.nilCheck (.tmp rfl)) rfl rfl rfl ?_
  refine LW.p (PEv.fieldAddr (off := 7) Tryz.underlying46 rfl rfl Tryz.sizeOf3 rfl (.tmp rfl)) rfl rfl rfl ?_
  refine LW.p (PEv.assign (.tmp rfl)) rfl rfl rfl (LW.nil (KW.then (CW.ret ?_)))
  refine KW.ret1 rfl rfl ⟨_, rfl, ?_⟩
  exact ⟨rfl, hW⟩

theorem get_other (b : Nat) (w : World) : Ret Tryz.prog 113 #[.pointer (some ⟨b, 0, none⟩)] w fun r w' => r = .pointer (some ⟨b, 8, none⟩) ∧ Up w w' := by
  have hW := Up.refl w
  refine Calls_start (n := 6) (m := 9) Tryz.func113 rfl rfl rfl ?_
  refine CW.seq (CW.region (LW.p (PEv.assign (.const _)) rfl rfl rfl (LW.nil (KW.then (CW.seq (CW.region (LW.p (PEv.move (.tmp rfl)) rfl rfl rfl ?_)))))))
  refine LW.p (PEv.nilCheck (.tmp rfl)) rfl rfl rfl ?_
  refine LW.p (PEv.fieldAddr (off := 8) Tryz.underlying46 rfl rfl Tryz.sizeOf3 rfl (.tmp rfl)) rfl rfl rfl ?_
  refine LW.p (PEv.assign (.tmp rfl)) rfl rfl rfl (LW.nil (KW.then (CW.ret ?_)))
  refine KW.ret1 rfl rfl ⟨_, rfl, ?_⟩
  exact ⟨rfl, hW⟩

theorem get_lot (b : Nat) (w : World) : Ret Tryz.prog 101 #[.pointer (some ⟨b, 0, none⟩)] w fun r w' => r = .pointer (some ⟨b, 9, none⟩) ∧ Up w w' := by
  have hW := Up.refl w
  refine Calls_start (n := 6) (m := 9) Tryz.func101 rfl rfl rfl ?_
  refine CW.seq (CW.region (LW.p (PEv.assign (.const _)) rfl rfl rfl (LW.nil (KW.then (CW.seq (CW.region (LW.p (PEv.move (.tmp rfl)) rfl rfl rfl ?_)))))))
  refine LW.p (PEv.nilCheck (.tmp rfl)) rfl rfl rfl ?_
  refine LW.p (PEv.fieldAddr (off := 9) Tryz.underlying46 rfl rfl Tryz.sizeOf3 rfl (.tmp rfl)) rfl rfl rfl ?_
  refine LW.p (PEv.assign (.tmp rfl)) rfl rfl rfl (LW.nil (KW.then (CW.ret ?_)))
  refine KW.ret1 rfl rfl ⟨_, rfl, ?_⟩
  exact ⟨rfl, hW⟩

theorem get_product (b : Nat) (w : World) : Ret Tryz.prog 114 #[.pointer (some ⟨b, 0, none⟩)] w fun r w' => r = .pointer (some ⟨b, 10, none⟩) ∧ Up w w' := by
  have hW := Up.refl w
  refine Calls_start (n := 6) (m := 9) Tryz.func114 rfl rfl rfl ?_
  refine CW.seq (CW.region (LW.p (PEv.assign (.const _)) rfl rfl rfl (LW.nil (KW.then (CW.seq (CW.region (LW.p (PEv.move (.tmp rfl)) rfl rfl rfl ?_)))))))
  refine LW.p (PEv.nilCheck (.tmp rfl)) rfl rfl rfl ?_
  refine LW.p (PEv.fieldAddr (off := 10) Tryz.underlying46 rfl rfl Tryz.sizeOf3 rfl (.tmp rfl)) rfl rfl rfl ?_
  refine LW.p (PEv.assign (.tmp rfl)) rfl rfl rfl (LW.nil (KW.then (CW.ret ?_)))
  refine KW.ret1 rfl rfl ⟨_, rfl, ?_⟩
  exact ⟨rfl, hW⟩

theorem get_tool (b : Nat) (w : World) : Ret Tryz.prog 102 #[.pointer (some ⟨b, 0, none⟩)] w fun r w' => r = .pointer (some ⟨b, 11, none⟩) ∧ Up w w' := by
  have hW := Up.refl w
  refine Calls_start (n := 6) (m := 9) Tryz.func102 rfl rfl rfl ?_
  refine CW.seq (CW.region (LW.p (PEv.assign (.const _)) rfl rfl rfl (LW.nil (KW.then (CW.seq (CW.region (LW.p (PEv.move (.tmp rfl)) rfl rfl rfl ?_)))))))
  refine LW.p (PEv.nilCheck (.tmp rfl)) rfl rfl rfl ?_
  refine LW.p (PEv.fieldAddr (off := 11) Tryz.underlying46 rfl rfl Tryz.sizeOf3 rfl (.tmp rfl)) rfl rfl rfl ?_
  refine LW.p (PEv.assign (.tmp rfl)) rfl rfl rfl (LW.nil (KW.then (CW.ret ?_)))
  refine KW.ret1 rfl rfl ⟨_, rfl, ?_⟩
  exact ⟨rfl, hW⟩

theorem get_chamber (b : Nat) (w : World) : Ret Tryz.prog 103 #[.pointer (some ⟨b, 0, none⟩)] w fun r w' => r = .pointer (some ⟨b, 12, none⟩) ∧ Up w w' := by
  have hW := Up.refl w
  refine Calls_start (n := 6) (m := 9) Tryz.func103 rfl rfl rfl ?_
  refine CW.seq (CW.region (LW.p (PEv.assign (.const _)) rfl rfl rfl (LW.nil (KW.then (CW.seq (CW.region (LW.p (PEv.move (.tmp rfl)) rfl rfl rfl ?_)))))))
  refine LW.p (PEv.nilCheck (.tmp rfl)) rfl rfl rfl ?_
  refine LW.p (PEv.fieldAddr (off := 12) Tryz.underlying46 rfl rfl Tryz.sizeOf3 rfl (.tmp rfl)) rfl rfl rfl ?_
  refine LW.p (PEv.assign (.tmp rfl)) rfl rfl rfl (LW.nil (KW.then (CW.ret ?_)))
  refine KW.ret1 rfl rfl ⟨_, rfl, ?_⟩
  exact ⟨rfl, hW⟩

theorem get_step (b : Nat) (w : World) : Ret Tryz.prog 104 #[.pointer (some ⟨b, 0, none⟩)] w fun r w' => r = .pointer (some ⟨b, 13, none⟩) ∧ Up w w' := by
  have hW := Up.refl w
  refine Calls_start (n := 6) (m := 9) Tryz.func104 rfl rfl rfl ?_
  refine CW.seq (CW.region (LW.p (PEv.assign (.const _)) rfl rfl rfl (LW.nil (KW.then (CW.seq (CW.region (LW.p (PEv.move (.tmp rfl)) rfl rfl rfl ?_)))))))
  refine LW.p (PEv.nilCheck (.tmp rfl)) rfl rfl rfl ?_
  refine LW.p (PEv.fieldAddr (off := 13) Tryz.underlying46 rfl rfl Tryz.sizeOf3 rfl (.tmp rfl)) rfl rfl rfl ?_
  refine LW.p (PEv.assign (.tmp rfl)) rfl rfl rfl (LW.nil (KW.then (CW.ret ?_)))
  refine KW.ret1 rfl rfl ⟨_, rfl, ?_⟩
  exact ⟨rfl, hW⟩

theorem get_recipe (b : Nat) (w : World) : Ret Tryz.prog 97 #[.pointer (some ⟨b, 0, none⟩)] w fun r w' => r = .pointer (some ⟨b, 14, none⟩) ∧ Up w w' := by
  have hW := Up.refl w
  refine Calls_start (n := 6) (m := 9) Tryz.func97 rfl rfl rfl ?_
  refine CW.seq (CW.region (LW.p (PEv.assign (.const _)) rfl rfl rfl (LW.nil (KW.then (CW.seq (CW.region (LW.p (PEv.move (.tmp rfl)) rfl rfl rfl ?_)))))))
  refine LW.p (PEv.nilCheck (.tmp rfl)) rfl rfl rfl ?_
  refine LW.p (PEv.fieldAddr (off := 14) Tryz.underlying46 rfl rfl Tryz.sizeOf3 rfl (.tmp rfl)) rfl rfl rfl ?_
  refine LW.p (PEv.assign (.tmp rfl)) rfl rfl rfl (LW.nil (KW.then (CW.ret ?_)))
  refine KW.ret1 rfl rfl ⟨_, rfl, ?_⟩
  exact ⟨rfl, hW⟩

theorem get_revision (b : Nat) (w : World) : Ret Tryz.prog 98 #[.pointer (some ⟨b, 0, none⟩)] w fun r w' => r = .pointer (some ⟨b, 15, none⟩) ∧ Up w w' := by
  have hW := Up.refl w
  refine Calls_start (n := 6) (m := 9) Tryz.func98 rfl rfl rfl ?_
  refine CW.seq (CW.region (LW.p (PEv.assign (.const _)) rfl rfl rfl (LW.nil (KW.then (CW.seq (CW.region (LW.p (PEv.move (.tmp rfl)) rfl rfl rfl ?_)))))))
  refine LW.p (PEv.nilCheck (.tmp rfl)) rfl rfl rfl ?_
  refine LW.p (PEv.fieldAddr (off := 15) Tryz.underlying46 rfl rfl Tryz.sizeOf3 rfl (.tmp rfl)) rfl rfl rfl ?_
  refine LW.p (PEv.assign (.tmp rfl)) rfl rfl rfl (LW.nil (KW.then (CW.ret ?_)))
  refine KW.ret1 rfl rfl ⟨_, rfl, ?_⟩
  exact ⟨rfl, hW⟩

theorem get_value (b : Nat) (w : World) : Ret Tryz.prog 106 #[.pointer (some ⟨b, 0, none⟩)] w fun r w' => r = .pointer (some ⟨b, 16, none⟩) ∧ Up w w' := by
  have hW := Up.refl w
  refine Calls_start (n := 6) (m := 9) Tryz.func106 rfl rfl rfl ?_
  refine CW.seq (CW.region (LW.p (PEv.assign (.const _)) rfl rfl rfl (LW.nil (KW.then (CW.seq (CW.region (LW.p (PEv.move (.tmp rfl)) rfl rfl rfl ?_)))))))
  refine LW.p (PEv.nilCheck (.tmp rfl)) rfl rfl rfl ?_
  refine LW.p (PEv.fieldAddr (off := 16) Tryz.underlying46 rfl rfl Tryz.sizeOf3 rfl (.tmp rfl)) rfl rfl rfl ?_
  refine LW.p (PEv.assign (.tmp rfl)) rfl rfl rfl (LW.nil (KW.then (CW.ret ?_)))
  refine KW.ret1 rfl rfl ⟨_, rfl, ?_⟩
  exact ⟨rfl, hW⟩

theorem get_parties (b : Nat) (w : World) : Ret Tryz.prog 105 #[.pointer (some ⟨b, 0, none⟩)] w fun r w' => r = .pointer (some ⟨b, 17, none⟩) ∧ Up w w' := by
  have hW := Up.refl w
  refine Calls_start (n := 6) (m := 9) Tryz.func105 rfl rfl rfl ?_
  refine CW.seq (CW.region (LW.p (PEv.assign (.const _)) rfl rfl rfl (LW.nil (KW.then (CW.seq (CW.region (LW.p (PEv.move (.tmp rfl)) rfl rfl rfl ?_)))))))
  refine LW.p (PEv.nilCheck (.tmp rfl)) rfl rfl rfl ?_
  refine LW.p (PEv.fieldAddr (off := 17) Tryz.underlying46 rfl rfl Tryz.sizeOf3 rfl (.tmp rfl)) rfl rfl rfl ?_
  refine LW.p (PEv.assign (.tmp rfl)) rfl rfl rfl (LW.nil (KW.then (CW.ret ?_)))
  refine KW.ret1 rfl rfl ⟨_, rfl, ?_⟩
  exact ⟨rfl, hW⟩

theorem number_any (g : FuncId) (w : World) : Ret Tryz.prog 95 #[.func (.func g) #[] #[]] w fun r w' => r = .agg #[.func (.func g) #[] #[], vi 1, vi 1000000] ∧ Up w w' := by
  have hW := Up.refl w
  refine Calls_start (n := 5) (m := 9) Tryz.func95 rfl rfl rfl ?_
  refine CW.seq (CW.region ?_)
  refine LW.r (REv.allocA Tryz.zeroValue126) rfl rfl rfl rfl ?_
  rintro _ w1 ⟨B2, rfl, NB2⟩
  have eB2 := NB2.at_
  have zB2 := NB2.size
  replace hW := hW.up NB2.up
  have hB2 := NB2.blk
  refine LW.nil (KW.then (CW.seq (CW.region (LW.p (PEv.move (.tmp rfl)) rfl rfl rfl ?_))))
  refine LW.p (PEv.build (cs := #[.func (.func g) #[] #[], vi 1, vi 1000000]) Tryz.underlying126 Tryz.zeroValue126 Tryz.places126 (.cons (.tmp rfl) (.cons (.const _) (.cons (.const _) .nil))) rfl) rfl rfl rfl ?_
  refine LW.s (SEv.storeA Tryz.sizeOf126 rfl (.tmp rfl) (.tmp rfl) (by first | rfl | exact Fact.one _ | exact GAct.one _ | exact holdCells_one _ _ | exact hold0_one | (simp [Value.oneCell'])) hB2 rfl) rfl rfl rfl ?_
  intro w2 Nw2
  have zw2 := Nw2.size
  replace hW := hW.sto Nw2.sto (by omega)
  replace hB2 := Nw2.blk
  refine LW.nil (KW.then (CW.ret ?_))
  refine KW.retA rfl rfl Tryz.isAgg126 Tryz.sizeOf126 rfl (hB2.agg) ⟨_, rfl, ?_⟩
  exact ⟨rfl, hW⟩

theorem when_any (w : World) : Ret Tryz.prog 111 #[] w fun r w' => r = .agg (Fld.cells fWhen) ∧ Up w w' := by
  have hW := Up.refl w
  refine Calls_start (n := 2) (m := 9) Tryz.func111 rfl rfl rfl ?_
  refine CW.seq (CW.region ?_)
  refine LW.r (REv.allocA Tryz.zeroValue126) rfl rfl rfl rfl ?_
  rintro _ w1 ⟨B0, rfl, NB0⟩
  have eB0 := NB0.at_
  have zB0 := NB0.size
  replace hW := hW.up NB0.up
  have hB0 := NB0.blk
  refine LW.nil (KW.then (CW.seq (CW.region ?_)))
  refine LW.p (PEv.build (cs := (Fld.cells fWhen)) Tryz.underlying126 Tryz.zeroValue126 Tryz.places126 (.cons (.func _) (.cons (.const _) (.cons (.const _) .nil))) rfl) rfl rfl rfl ?_
  refine LW.s (SEv.storeA Tryz.sizeOf126 rfl (.tmp rfl) (.tmp rfl) (Fld.one _) hB0 rfl) rfl rfl rfl ?_
  intro w2 Nw2
  have zw2 := Nw2.size
  replace hW := hW.sto Nw2.sto (by omega)
  replace hB0 := Nw2.blk
  refine LW.nil (KW.then (CW.ret ?_))
  refine KW.retA rfl rfl Tryz.isAgg126 Tryz.sizeOf126 rfl (hB0.agg) ⟨_, rfl, ?_⟩
  exact ⟨rfl, hW⟩

theorem place_any (w : World) : Ret Tryz.prog 108 #[] w fun r w' => SlT 126 w' r 3 Fld.cells fPlace ∧ Up w w' := by
  have hW := Up.refl w
  refine Calls_start (n := 4) (m := 9) Tryz.func108 rfl rfl rfl ?_
  refine CW.seq (CW.region (LW.p (PEv.assign (.const _)) rfl rfl rfl (LW.nil (KW.then (CW.seq (CW.region ?_))))))
  refine LW.p (PEv.build (cs := (Fld.cells ⟨11, 0, 59⟩)) Tryz.underlying126 Tryz.zeroValue126 Tryz.places126 (.cons (.func _) (.cons (.const _) (.cons (.const _) .nil))) rfl) rfl rfl rfl ?_
  refine LW.p (PEv.build (cs := (Fld.cells ⟨12, 0, 3⟩)) Tryz.underlying126 Tryz.zeroValue126 Tryz.places126 (.cons (.func _) (.cons (.const _) (.cons (.const _) .nil))) rfl) rfl rfl rfl ?_
  refine LW.r (REv.buildSlice (xs := fPlace) (enc := Fld.cells) (mk := fun x : Fld => .agg (Fld.cells x)) Tryz.underlying97 Tryz.sizeOf126 Tryz.zeroValue126 rfl (by decide) (fun _ => rfl) (fun _ => rfl) (.cons (.tmp rfl) (.cons (.tmp rfl) .nil)) rfl) rfl rfl rfl rfl ?_
  rintro _ w1 ⟨B3, cB3, rfl, NB3, yB3, xB3⟩
  have eB3 := NB3.at_
  have zB3 := NB3.size
  replace hW := hW.up NB3.up
  have hB3 := NB3.blk
  have hE3 := xB3
  refine LW.p (PEv.assign (.tmp rfl)) rfl rfl rfl (LW.nil (KW.then (CW.ret ?_)))
  refine KW.ret1 rfl rfl ⟨_, rfl, ?_⟩
  exact ⟨SlT.lit ⟨B3, cB3, rfl, NB3, yB3, hE3⟩, hW⟩

theorem span_any (w : World) : Ret Tryz.prog 109 #[] w fun r w' => SlT 126 w' r 3 Fld.cells fSpan ∧ Up w w' := by
  have hW := Up.refl w
  refine Calls_start (n := 4) (m := 9) Tryz.func109 rfl rfl rfl ?_
  refine CW.seq (CW.region (LW.p (PEv.assign (.const _)) rfl rfl rfl (LW.nil (KW.then (CW.seq (CW.region ?_))))))
  refine LW.c (enter_call0 .nil (Tryz.en111)) rfl rfl rfl rfl (when_any _) ?_
  rintro _ w1 ⟨rfl, uw1⟩
  have zw1 := uw1.size
  replace hW := hW.up uw1
  refine LW.p (PEv.build (cs := (Fld.cells ⟨6, 0, 1000000⟩)) Tryz.underlying126 Tryz.zeroValue126 Tryz.places126 (.cons (.func _) (.cons (.const _) (.cons (.const _) .nil))) rfl) rfl rfl rfl ?_
  refine LW.r (REv.buildSlice (xs := fSpan) (enc := Fld.cells) (mk := fun x : Fld => .agg (Fld.cells x)) Tryz.underlying97 Tryz.sizeOf126 Tryz.zeroValue126 rfl (by decide) (fun _ => rfl) (fun _ => rfl) (.cons (.tmp rfl) (.cons (.tmp rfl) .nil)) rfl) rfl rfl rfl rfl ?_
  rintro _ w2 ⟨B3, cB3, rfl, NB3, yB3, xB3⟩
  have eB3 := NB3.at_
  have zB3 := NB3.size
  replace hW := hW.up NB3.up
  have hB3 := NB3.blk
  have hE3 := xB3
  refine LW.p (PEv.assign (.tmp rfl)) rfl rfl rfl (LW.nil (KW.then (CW.ret ?_)))
  refine KW.ret1 rfl rfl ⟨_, rfl, ?_⟩
  exact ⟨SlT.lit ⟨B3, cB3, rfl, NB3, yB3, hE3⟩, hW⟩

theorem join_any (ad : Option Addr) (cp : Nat) (vs : List Go.Value) (xss : List (List Fld)) (w : World) (hE0 : Els w ad 1 (fun v => #[v]) vs) (hl : xss.length = vs.length) (hx0 : ∀ (i : Nat) (v : Go.Value) (xs : List Fld), vs[i]? = some v → xss[i]? = some xs → Sl w v 3 Fld.cells xs) (hv : vs.length ≤ 1000) (hb : xss.flatten.length ≤ 1000) : Ret Tryz.prog 107 #[.slice ad vs.length cp] w fun r w' => SlT 126 w' r 3 Fld.cells xss.flatten ∧ Up w w' := by
  obtain ⟨w0, rfl⟩ : ∃ w0, w0 = w := ⟨_, rfl⟩
  have hS := Sep.start no w0
  refine Calls_start (n := 16) (m := 9) Tryz.func107 rfl rfl rfl ?_
  refine CW.seq (CW.region (LW.p (PEv.assign (.const _)) rfl rfl rfl (LW.nil (KW.then (CW.seq (CW.seq ?_))))))
  replace hS := hS.add (Up.refl _) (A' := aOwn 126 3 Fld.cells (.slice none 0 0) ([] : List Fld)) (OwnS.nil _ _ _ _ _) (fun i h => by cases h)
  change Wx.Sep _ _ _ [_] at hS
  refine CW.region (LW.p (PEv.move (.tmp rfl)) rfl rfl rfl ?_)
  refine LW.p (PEv.lenS Tryz.underlying150 (.tmp rfl)) rfl rfl rfl ?_
  refine LW.p (PEv.move (.const _)) rfl rfl rfl ?_
  refine LW.nil (KW.then (CW.block ?_))
  refine CW.loopB (σ := Nat × Go.Value) (fun s w => (s.1 ≤ vs.length) ∧ (Sep no w0 w [aOwn 126 3 Fld.cells s.2 ((xss.take s.1).flatten)])) (fun s => [(7, .eq (vi (s.1 : Int))), (2, .eq (s.2))]) ([(5, .eq _), (6, .eq _)]) (fun s => vs.length - s.1) (0, .slice none 0 0) ?_ ⟨rfl, rfl, rfl, rfl, trivial⟩ ?_
  ·exact ⟨Nat.zero_le _, hS⟩
  ·rintro ⟨k, v⟩ w1 ⟨hkk, hS⟩
   dsimp only at hkk hS
   refine CW.seq (CW.region ?_)
   refine LW.p (PEv.lss (.tmp rfl) (.tmp rfl)) rfl rfl rfl ?_
   refine LW.nil (KW.then (CW.seq ?_))
   refine CW.cond (.tmp rfl) (fun h8 => ?_) (fun h8 => ?_)
   ·first | replace h8 := of_decide_eq_true h8 | replace h8 := of_decide_eq_false h8 | skip
    refine CW.skip (KW.then (CW.seq (CW.block (CW.seq ?_))))
    have hE := hE0.up hS.upd
    have hkl : k < vs.length := by simp at h8; omega
    refine CW.region ?_
    obtain ⟨x, hx⟩ := getElem?_of_lt (xs := vs) (i := k) (by omega)
    obtain ⟨Bx, ox, ax, hcx⟩ := hE _ x hx
    refine LW.p (PEv.indexAddr' Tryz.underlying150 Tryz.sizeOf97 (.tmp rfl) (.tmp rfl) (by omega) ax) rfl rfl rfl ?_
    refine LW.p (PEv.load Tryz.isAgg97 (.tmp rfl) (hcx.nth (j := 0) rfl)) rfl rfl rfl ?_
    refine LW.p (PEv.assign (.tmp rfl)) rfl rfl rfl (LW.nil (KW.then ?_))
    obtain ⟨ys, hys⟩ := getElem?_of_lt (xs := xss) (i := k) (by omega)
    have hSl := ((hx0 k x ys hx hys).up hS.upd)
    have hfl := take_flat_len xss (k + 1)
    rw [take_flat hys, List.length_append] at hfl
    refine CW.region (LW.p (PEv.move (.tmp rfl)) rfl rfl rfl (LW.p (PEv.move (.tmp rfl)) rfl rfl rfl ?_))
    refine LW.r (REv.appendF (enc := Fld.cells) (bytes := 24) (i := Tryz.t126) Tryz.underlying97 (by kernel_rfl) rfl rfl rfl rfl (by decide) (fun _ => rfl) Fld.one (.tmp rfl) (.tmp rfl) (hS.own 0 rfl) hSl (by simp only [maxLen]; omega) (by omega)) rfl rfl rfl rfl ?_
    intro v13 w2 Gw2
    have zw2 := Gw2.fr.size
    replace hS := hS.stp 0 rfl Gw2
    change Wx.Sep _ _ _ [_] at hS
    refine LW.p (PEv.assign (.tmp rfl)) rfl rfl rfl (LW.nil (KW.inBlock (KW.then (CW.region ?_))))
    refine LW.p (PEv.inc (.tmp rfl) (by omega)) rfl rfl rfl ?_
    refine LW.p (PEv.move (.tmp rfl)) rfl rfl rfl (LW.nil (KW.round ?_))
    exact ⟨(k + 1, v13), ⟨by omega, by rw [take_flat hys]; exact hS⟩, ⟨rfl, rfl, rfl, rfl, trivial⟩, by first | omega | (dsimp only; omega)⟩
   ·first | replace h8 := of_decide_eq_true h8 | replace h8 := of_decide_eq_false h8 | skip
    refine CW.exit (KW.then_exit (KW.then_exit (KW.block_hit (KW.then (CW.seq (CW.region (LW.p (PEv.move (.tmp rfl)) rfl rfl rfl (LW.p (PEv.assign (.tmp rfl)) rfl rfl rfl (LW.nil (KW.then (CW.ret ?_)))))))))))
    refine KW.ret1 rfl rfl ⟨_, rfl, ?_⟩
    have hk2 : xss.take k = xss := List.take_of_length_le (by simp at h8; omega)
    rw [hk2] at hS
    exact ⟨SlT.own (hS.own 0 rfl) (fun _ => rfl), hS.upd⟩

end Go.Proofs.YthfjagphcekcbaaGreat

-- Ba2
namespace Go.Wx

def shapeF : List (List Fld) := [[], fIds ++ [num1 7] ++ fPlace ++ [⟨13, 0, 39⟩] ++ fRec ++ fSpan ++ [⟨16, -10000000, 10000000⟩], fIds ++ [fWhen, fRes], fIds ++ [num1 7, num1 8, fWhen], [num1 7, num1 9, num1 10, fWhen], [num1 10], fIds ++ fPlace ++ fRec ++ fSpan, fIds ++ fNamed ++ fSpan ++ [fWho], [num1 8, fWho, fWhen], fIds ++ fPlace ++ [fWhen], [num1 14, fWhen, fRes], fIds ++ fPlace ++ fSpan]
def shapeK : List (List Fld) := [[], fIds, fIds, fIds, [num1 7, fWhen], [num1 10], fIds, fIds, [num1 8, fWho], fIds, [num1 14, fWhen], fIds]
def fieldsOf (k : Int) : List Fld := shapeF.getD k.toNat []
def keyFOf (k : Int) : List Fld := shapeK.getD k.toNat []
/-- 0: any; 1: Time <= Until; 2: Wafer != Other -/
def restOf (k : Int) : Nat := [0, 1, 0, 2, 0, 0, 1, 1, 0, 0, 0, 1].getD k.toNat 0
def textOf (k : Int) : Bool := decide (k = 5)

end Go.Wx
namespace Go.Proofs.YthfjagphcekcbaaGreat
open Go.Wx Go.RowKit
def restFn : Nat → FuncId := fun o => match o with
  | 1 => 110
  | 2 => 99
  | _ => 112
def ShV (w : World) (v : Go.Value) (fs ks : List Fld) (r : Nat) (t : Bool) : Prop := ∃ v1 v2, v = .agg #[v1, v2, .func (.func (restFn r)) #[] #[], .bool t] ∧ SlT 126 w v1 3 Fld.cells fs ∧ SlT 126 w v2 3 Fld.cells ks
theorem ShV.cel {w w' : World} {v : Go.Value} {fs ks : List Fld} {r : Nat} {t : Bool} (h : ShV w v fs ks r t) (u : Cel w w') : ShV w' v fs ks r t := let ⟨v1, v2, e, h1, h2⟩ := h; ⟨v1, v2, e, h1.cel u, h2.cel u⟩
def SlS (w : World) (v : Go.Value) (xss : List (List Fld)) : Prop := ∃ vs : List Go.Value, Sl w v 1 (fun v => #[v]) vs ∧ xss.length = vs.length ∧ ∀ (i : Nat) (v : Go.Value) (xs : List Fld), vs[i]? = some v → xss[i]? = some xs → Sl w v 3 Fld.cells xs
theorem SlS.cel {w w' : World} {v : Go.Value} {xss : List (List Fld)} (h : SlS w v xss) (u : Cel w w') : SlS w' v xss := let ⟨vs, h1, h2, h3⟩ := h; ⟨vs, h1.cel u, h2, fun i v xs a b => (h3 i v xs a b).cel u⟩
theorem PhC.sls (xss : List (List Fld)) : PhC (.pred fun v w => SlS w v xss) := fun _ _ _ h u => SlS.cel h u
theorem PhC.shv (fs ks : List Fld) (r : Nat) (t : Bool) : PhC (.pred fun v w => ShV w v fs ks r t) := fun _ _ _ h u => ShV.cel h u
def ShMap (w : World) (b : Nat) : Prop := ∃ kv, IMap w b kv ∧ (∀ k v, (k, v) ∈ kv → ShV w v (fieldsOf k) (keyFOf k) (restOf k) (textOf k)) ∧ ∀ k, k ∈ kv.map (·.1) ↔ 1 ≤ k ∧ k ≤ 11
theorem ShMap.up {w w' : World} {b : Nat} (h : ShMap w b) (u : Up w w') : ShMap w' b := let ⟨kv, h1, h2, h3⟩ := h; ⟨kv, h1.up u, fun k v m => (h2 k v m).cel u.cel, h3⟩
theorem SlS.one {w : World} {v v1 : Go.Value} {a : List Fld} (h : Sl w v 1 (fun v => #[v]) [v1]) (h1 : Sl w v1 3 Fld.cells a) : SlS w v [a] := ⟨[v1], h, rfl, fun i v xs e1 e2 => by
  match i with
  | 0 => cases e1; cases e2; exact h1
  | i + 1 => simp at e1⟩
def AllSl (w : World) : List Go.Value → List (List Fld) → Prop
  | [], [] => True
  | v :: vs, xs :: xss => Sl w v 3 Fld.cells xs ∧ AllSl w vs xss
  | _, _ => False
def slv (t : Option Addr × Nat × Nat) : Go.Value := .slice t.1 t.2.1 t.2.2
theorem Els.vals {α : Type} {mk : α → Go.Value} {w : World} {ad : Option Addr} {xs : List α} (h : Els w ad 1 (fun x => #[mk x]) xs) : Els w ad 1 (fun v => #[v]) (xs.map mk) := fun i v hv => by
  rw [List.getElem?_map] at hv
  cases hx : xs[i]? with
  | none => rw [hx] at hv; cases hv
  | some x => rw [hx] at hv; cases hv; exact h i x hx
theorem AllSl.at {w : World} : ∀ {vs : List Go.Value} {xss : List (List Fld)}, AllSl w vs xss → xss.length = vs.length ∧ ∀ (i : Nat) (v : Go.Value) (xs : List Fld), vs[i]? = some v → xss[i]? = some xs → Sl w v 3 Fld.cells xs
  | [], [], _ => ⟨rfl, fun i v xs h => by simp at h⟩
  | v :: vs, xs :: xss, h => ⟨by simp [(AllSl.at h.2).1], fun i v' xs' e1 e2 => by
    match i with
    | 0 => cases e1; cases e2; exact h.1
    | i + 1 => rw [List.getElem?_cons_succ] at e1 e2; exact (AllSl.at h.2).2 i v' xs' e1 e2⟩
  | [], _ :: _, h => h.elim
  | _ :: _, [], h => h.elim
theorem AllSl.up {w w' : World} (u : Up w w') : ∀ {vs : List Go.Value} {xss : List (List Fld)}, AllSl w vs xss → AllSl w' vs xss
  | [], [], _ => trivial
  | _ :: _, _ :: _, h => ⟨h.1.cel u.cel, AllSl.up u h.2⟩
  | [], _ :: _, h => h.elim
  | _ :: _, [], h => h.elim
set_option maxHeartbeats 8000000 in
theorem shapes_any (w : World) : Ret Tryz.prog 55 #[] w fun r w' => ∃ b, r = .map (some b) ∧ ShMap w' b ∧ Up w w' := by
  have hW := Up.refl w
  refine Calls_start (n := 118) (m := 9) Tryz.func55 rfl rfl rfl ?_
  refine CW.seq (CW.region (LW.p (PEv.assign (.const _)) rfl rfl rfl (LW.nil (KW.then (CW.seq (CW.region ?_))))))
  refine LW.c (enter_call0 (.cons (.func _) .nil) (Tryz.en95)) rfl rfl rfl rfl (number_any _ _) ?_
  rintro _ w1 ⟨rfl, uw1⟩
  have zw1 := uw1.size
  replace hW := hW.up uw1
  refine LW.r (REv.buildSlice (xs := fIds) (enc := Fld.cells) (mk := fun x : Fld => .agg (Fld.cells x)) Tryz.underlying97 Tryz.sizeOf126 Tryz.zeroValue126 rfl (by decide) (fun _ => rfl) (fun _ => rfl) (.cons (.tmp rfl) .nil) rfl) rfl rfl rfl rfl ?_
  rintro _ w2 ⟨B8, cB8, rfl, NB8, yB8, xB8⟩
  have eB8 := NB8.at_
  have zB8 := NB8.size
  replace hW := hW.up NB8.up
  have hB8 := NB8.blk
  have hE8 := xB8
  refine LW.p (PEv.assign (.tmp rfl)) rfl rfl rfl (LW.nil (KW.then (CW.seq ?_)))
  have hT8 := SlT.lit ⟨B8, cB8, rfl, NB8, yB8, hE8⟩
  refine CW.region ?_
  refine LW.c (enter_call0 (.cons (.func _) .nil) (Tryz.en95)) rfl rfl rfl rfl (number_any _ _) ?_
  rintro _ w3 ⟨rfl, uw3⟩
  have zw3 := uw3.size
  replace hW := hW.up uw3
  replace hB8 := hB8.up uw3
  replace hE8 := hE8.up uw3
  replace hT8 := hT8.up uw3
  refine LW.c (enter_call0 (.cons (.func _) .nil) (Tryz.en95)) rfl rfl rfl rfl (number_any _ _) ?_
  rintro _ w4 ⟨rfl, uw4⟩
  have zw4 := uw4.size
  replace hW := hW.up uw4
  replace hB8 := hB8.up uw4
  replace hE8 := hE8.up uw4
  replace hT8 := hT8.up uw4
  refine LW.r (REv.buildSlice (xs := fRec) (enc := Fld.cells) (mk := fun x : Fld => .agg (Fld.cells x)) Tryz.underlying97 Tryz.sizeOf126 Tryz.zeroValue126 rfl (by decide) (fun _ => rfl) (fun _ => rfl) (.cons (.tmp rfl) (.cons (.tmp rfl) .nil)) rfl) rfl rfl rfl rfl ?_
  rintro _ w5 ⟨B11, cB11, rfl, NB11, yB11, xB11⟩
  have eB11 := NB11.at_
  have zB11 := NB11.size
  replace hW := hW.up NB11.up
  replace hB8 := hB8.up NB11.up
  replace hE8 := hE8.up NB11.up
  replace hT8 := hT8.up NB11.up
  have hB11 := NB11.blk
  have hE11 := xB11
  refine LW.p (PEv.assign (.tmp rfl)) rfl rfl rfl (LW.nil (KW.then (CW.seq ?_)))
  have hT11 := SlT.lit ⟨B11, cB11, rfl, NB11, yB11, hE11⟩
  refine CW.region ?_
  refine LW.p (PEv.assign (.func _)) rfl rfl rfl ?_
  refine LW.nil (KW.then (CW.seq (CW.region ?_)))
  refine LW.p (PEv.build (cs := (Fld.cells ⟨7, 0, 1000000⟩)) Tryz.underlying126 Tryz.zeroValue126 Tryz.places126 (.cons (.func _) (.cons (.const _) (.cons (.const _) .nil))) rfl) rfl rfl rfl ?_
  refine LW.p (PEv.build (cs := (Fld.cells ⟨9, 0, 1000000⟩)) Tryz.underlying126 Tryz.zeroValue126 Tryz.places126 (.cons (.func _) (.cons (.const _) (.cons (.const _) .nil))) rfl) rfl rfl rfl ?_
  refine LW.p (PEv.build (cs := (Fld.cells ⟨11, 0, 60⟩)) Tryz.underlying126 Tryz.zeroValue126 Tryz.places126 (.cons (.func _) (.cons (.const _) (.cons (.const _) .nil))) rfl) rfl rfl rfl ?_
  refine LW.p (PEv.build (cs := (Fld.cells ⟨12, 0, 4⟩)) Tryz.underlying126 Tryz.zeroValue126 Tryz.places126 (.cons (.func _) (.cons (.const _) (.cons (.const _) .nil))) rfl) rfl rfl rfl ?_
  refine LW.p (PEv.build (cs := (Fld.cells ⟨13, 0, 40⟩)) Tryz.underlying126 Tryz.zeroValue126 Tryz.places126 (.cons (.func _) (.cons (.const _) (.cons (.const _) .nil))) rfl) rfl rfl rfl ?_
  refine LW.p (PEv.build (cs := (Fld.cells ⟨14, 0, 1000000⟩)) Tryz.underlying126 Tryz.zeroValue126 Tryz.places126 (.cons (.func _) (.cons (.const _) (.cons (.const _) .nil))) rfl) rfl rfl rfl ?_
  refine LW.p (PEv.build (cs := (Fld.cells ⟨15, 0, 1000000⟩)) Tryz.underlying126 Tryz.zeroValue126 Tryz.places126 (.cons (.func _) (.cons (.const _) (.cons (.const _) .nil))) rfl) rfl rfl rfl ?_
  refine LW.r (REv.buildSlice (xs := fNamed) (enc := Fld.cells) (mk := fun x : Fld => .agg (Fld.cells x)) Tryz.underlying97 Tryz.sizeOf126 Tryz.zeroValue126 rfl (by decide) (fun _ => rfl) (fun _ => rfl) (.cons (.tmp rfl) (.cons (.tmp rfl) (.cons (.tmp rfl) (.cons (.tmp rfl) (.cons (.tmp rfl) (.cons (.tmp rfl) (.cons (.tmp rfl) .nil))))))) rfl) rfl rfl rfl rfl ?_
  rintro _ w6 ⟨B19, cB19, rfl, NB19, yB19, xB19⟩
  have eB19 := NB19.at_
  have zB19 := NB19.size
  replace hW := hW.up NB19.up
  replace hB8 := hB8.up NB19.up
  replace hE8 := hE8.up NB19.up
  replace hT8 := hT8.up NB19.up
  replace hB11 := hB11.up NB19.up
  replace hE11 := hE11.up NB19.up
  replace hT11 := hT11.up NB19.up
  have hB19 := NB19.blk
  have hE19 := xB19
  refine LW.p (PEv.assign (.tmp rfl)) rfl rfl rfl (LW.nil (KW.then (CW.seq ?_)))
  have hT19 := SlT.lit ⟨B19, cB19, rfl, NB19, yB19, hE19⟩
  refine CW.region ?_
  refine LW.p (PEv.build (cs := (Fld.cells fWho)) Tryz.underlying126 Tryz.zeroValue126 Tryz.places126 (.cons (.func _) (.cons (.const _) (.cons (.const _) .nil))) rfl) rfl rfl rfl ?_
  refine LW.r (REv.allocA Tryz.zeroValue126) rfl rfl rfl rfl ?_
  rintro _ w7 ⟨B5, rfl, MB5⟩
  refine LW.s (SEv.storeA Tryz.sizeOf126 rfl (.tmp rfl) (.tmp rfl) (Fld.one _) MB5.blk rfl) rfl rfl rfl ?_
  intro w8 LB5
  have NB5 := MB5.set LB5
  clear LB5 MB5
  have eB5 := NB5.at_
  have zB5 := NB5.size
  replace hW := hW.up NB5.up
  replace hB8 := hB8.up NB5.up
  replace hE8 := hE8.up NB5.up
  replace hT8 := hT8.up NB5.up
  replace hB11 := hB11.up NB5.up
  replace hE11 := hE11.up NB5.up
  replace hT11 := hT11.up NB5.up
  replace hB19 := hB19.up NB5.up
  replace hE19 := hE19.up NB5.up
  replace hT19 := hT19.up NB5.up
  have hB5 := NB5.blk
  refine LW.nil (KW.then (CW.seq (CW.region ?_)))
  refine LW.p (PEv.build (cs := (Fld.cells fRes)) Tryz.underlying126 Tryz.zeroValue126 Tryz.places126 (.cons (.func _) (.cons (.const _) (.cons (.const _) .nil))) rfl) rfl rfl rfl ?_
  refine LW.r (REv.allocA Tryz.zeroValue126) rfl rfl rfl rfl ?_
  rintro _ w9 ⟨B6, rfl, MB6⟩
  refine LW.s (SEv.storeA Tryz.sizeOf126 rfl (.tmp rfl) (.tmp rfl) (Fld.one _) MB6.blk rfl) rfl rfl rfl ?_
  intro w10 LB6
  have NB6 := MB6.set LB6
  clear LB6 MB6
  have eB6 := NB6.at_
  have zB6 := NB6.size
  replace hW := hW.up NB6.up
  replace hB8 := hB8.up NB6.up
  replace hE8 := hE8.up NB6.up
  replace hT8 := hT8.up NB6.up
  replace hB11 := hB11.up NB6.up
  replace hE11 := hE11.up NB6.up
  replace hT11 := hT11.up NB6.up
  replace hB19 := hB19.up NB6.up
  replace hE19 := hE19.up NB6.up
  replace hT19 := hT19.up NB6.up
  replace hB5 := hB5.up NB6.up
  have hB6 := NB6.blk
  refine LW.nil (KW.then (CW.seq ?_))
  refine CW.maplit 106 0 22 [(15, 1, 36), (24, 2, 44), (35, 3, 54), (45, 4, 63), (51, 5, 68), (60, 6, 76), (70, 7, 85), (79, 8, 93), (88, 9, 101), (97, 10, 109), (105, 11, 116)] [(.pred fun v _ => ∃ b, v = .map (some b)), (.pred fun v w => SlT 126 w v 3 Fld.cells (fIds)), (.eq (.agg (Fld.cells (num1 7)))), (.pred fun v w => SlT 126 w v 3 Fld.cells ([num1 7])), (.pred fun v w => SlT 126 w v 3 Fld.cells (fPlace)), (.eq (.agg (Fld.cells (⟨13, 0, 39⟩)))), (.pred fun v w => SlT 126 w v 3 Fld.cells ([⟨13, 0, 39⟩])), (.pred fun v w => SlT 126 w v 3 Fld.cells (fRec)), (.pred fun v w => SlT 126 w v 3 Fld.cells (fSpan)), (.eq (.agg (Fld.cells (⟨16, -10000000, 10000000⟩)))), (.pred fun v w => SlT 126 w v 3 Fld.cells ([⟨16, -10000000, 10000000⟩])), (.pred fun v w => SlS w v [fIds, [num1 7], fPlace, [⟨13, 0, 39⟩], fRec, fSpan, [⟨16, -10000000, 10000000⟩]]), (.pred fun v w => SlT 126 w v 3 Fld.cells (List.flatten [fIds, [num1 7], fPlace, [⟨13, 0, 39⟩], fRec, fSpan, [⟨16, -10000000, 10000000⟩]])), (.pred fun v w => SlT 126 w v 3 Fld.cells (fIds)), (.pred fun v w => ShV w v (List.flatten [fIds, [num1 7], fPlace, [⟨13, 0, 39⟩], fRec, fSpan, [⟨16, -10000000, 10000000⟩]]) (fIds) 1 false), (.eq undef), (.pred fun v w => SlT 126 w v 3 Fld.cells (fIds)), (.eq (.agg (Fld.cells (fWhen)))), (.eq (.agg (Fld.cells (fRes)))), (.pred fun v w => SlT 126 w v 3 Fld.cells ([fWhen, fRes])), (.pred fun v w => SlS w v [fIds, [fWhen, fRes]]), (.pred fun v w => SlT 126 w v 3 Fld.cells (List.flatten [fIds, [fWhen, fRes]])), (.pred fun v w => SlT 126 w v 3 Fld.cells (fIds)), (.pred fun v w => ShV w v (List.flatten [fIds, [fWhen, fRes]]) (fIds) 0 false), (.eq undef), (.pred fun v w => SlT 126 w v 3 Fld.cells (fIds)), (.eq (.agg (Fld.cells (num1 7)))), (.eq (.agg (Fld.cells (num1 8)))), (.eq (.agg (Fld.cells (fWhen)))), (.pred fun v w => SlT 126 w v 3 Fld.cells ([num1 7, num1 8, fWhen])), (.pred fun v w => SlS w v [fIds, [num1 7, num1 8, fWhen]]), (.pred fun v w => SlT 126 w v 3 Fld.cells (List.flatten [fIds, [num1 7, num1 8, fWhen]])), (.pred fun v w => SlT 126 w v 3 Fld.cells (fIds)), (.eq (.func (.func (restFn 2)) #[] #[])), (.pred fun v w => ShV w v (List.flatten [fIds, [num1 7, num1 8, fWhen]]) (fIds) 2 false), (.eq undef), (.eq (.agg (Fld.cells (num1 7)))), (.eq (.agg (Fld.cells (num1 9)))), (.eq (.agg (Fld.cells (num1 10)))), (.eq (.agg (Fld.cells (fWhen)))), (.pred fun v w => SlT 126 w v 3 Fld.cells ([num1 7, num1 9, num1 10, fWhen])), (.eq (.agg (Fld.cells (num1 7)))), (.eq (.agg (Fld.cells (fWhen)))), (.pred fun v w => SlT 126 w v 3 Fld.cells ([num1 7, fWhen])), (.pred fun v w => ShV w v ([num1 7, num1 9, num1 10, fWhen]) ([num1 7, fWhen]) 0 false), (.eq undef), (.eq (.agg (Fld.cells (num1 10)))), (.pred fun v w => SlT 126 w v 3 Fld.cells ([num1 10])), (.eq (.agg (Fld.cells (num1 10)))), (.pred fun v w => SlT 126 w v 3 Fld.cells ([num1 10])), (.pred fun v w => ShV w v ([num1 10]) ([num1 10]) 0 true), (.eq undef), (.pred fun v w => SlT 126 w v 3 Fld.cells (fIds)), (.pred fun v w => SlT 126 w v 3 Fld.cells (fPlace)), (.pred fun v w => SlT 126 w v 3 Fld.cells (fRec)), (.pred fun v w => SlT 126 w v 3 Fld.cells (fSpan)), (.pred fun v w => SlS w v [fIds, fPlace, fRec, fSpan]), (.pred fun v w => SlT 126 w v 3 Fld.cells (List.flatten [fIds, fPlace, fRec, fSpan])), (.pred fun v w => SlT 126 w v 3 Fld.cells (fIds)), (.pred fun v w => ShV w v (List.flatten [fIds, fPlace, fRec, fSpan]) (fIds) 1 false), (.eq undef), (.pred fun v w => SlT 126 w v 3 Fld.cells (fIds)), (.pred fun v w => SlT 126 w v 3 Fld.cells (fNamed)), (.pred fun v w => SlT 126 w v 3 Fld.cells (fSpan)), (.eq (.agg (Fld.cells (fWho)))), (.pred fun v w => SlT 126 w v 3 Fld.cells ([fWho])), (.pred fun v w => SlS w v [fIds, fNamed, fSpan, [fWho]]), (.pred fun v w => SlT 126 w v 3 Fld.cells (List.flatten [fIds, fNamed, fSpan, [fWho]])), (.pred fun v w => SlT 126 w v 3 Fld.cells (fIds)), (.pred fun v w => ShV w v (List.flatten [fIds, fNamed, fSpan, [fWho]]) (fIds) 1 false), (.eq undef), (.eq (.agg (Fld.cells (num1 8)))), (.eq (.agg (Fld.cells (fWho)))), (.eq (.agg (Fld.cells (fWhen)))), (.pred fun v w => SlT 126 w v 3 Fld.cells ([num1 8, fWho, fWhen])), (.eq (.agg (Fld.cells (num1 8)))), (.eq (.agg (Fld.cells (fWho)))), (.pred fun v w => SlT 126 w v 3 Fld.cells ([num1 8, fWho])), (.pred fun v w => ShV w v ([num1 8, fWho, fWhen]) ([num1 8, fWho]) 0 false), (.eq undef), (.pred fun v w => SlT 126 w v 3 Fld.cells (fIds)), (.pred fun v w => SlT 126 w v 3 Fld.cells (fPlace)), (.eq (.agg (Fld.cells (fWhen)))), (.pred fun v w => SlT 126 w v 3 Fld.cells ([fWhen])), (.pred fun v w => SlS w v [fIds, fPlace, [fWhen]]), (.pred fun v w => SlT 126 w v 3 Fld.cells (List.flatten [fIds, fPlace, [fWhen]])), (.pred fun v w => SlT 126 w v 3 Fld.cells (fIds)), (.pred fun v w => ShV w v (List.flatten [fIds, fPlace, [fWhen]]) (fIds) 0 false), (.eq undef), (.eq (.agg (Fld.cells (num1 14)))), (.eq (.agg (Fld.cells (fWhen)))), (.eq (.agg (Fld.cells (fRes)))), (.pred fun v w => SlT 126 w v 3 Fld.cells ([num1 14, fWhen, fRes])), (.eq (.agg (Fld.cells (num1 14)))), (.eq (.agg (Fld.cells (fWhen)))), (.pred fun v w => SlT 126 w v 3 Fld.cells ([num1 14, fWhen])), (.pred fun v w => ShV w v ([num1 14, fWhen, fRes]) ([num1 14, fWhen]) 0 false), (.eq undef), (.pred fun v w => SlT 126 w v 3 Fld.cells (fIds)), (.pred fun v w => SlT 126 w v 3 Fld.cells (fPlace)), (.pred fun v w => SlT 126 w v 3 Fld.cells (fSpan)), (.pred fun v w => SlS w v [fIds, fPlace, fSpan]), (.pred fun v w => SlT 126 w v 3 Fld.cells (List.flatten [fIds, fPlace, fSpan])), (.pred fun v w => SlT 126 w v 3 Fld.cells (fIds)), (.pred fun v w => ShV w v (List.flatten [fIds, fPlace, fSpan]) (fIds) 1 false), (.eq undef)] Tryz.underlying100 Tryz.underlying3 (by kernel_rfl) rfl (by kernel_rfl) (by kernel_rfl) (by kernel_rfl) (by kernel_rfl) (by kernel_rfl) (by kernel_rfl) (by kernel_rfl) rfl (by decide) ⟨_, _, rfl⟩ ⟨PhC.pred fun _ _ _ h _ => h, PhC.slT _ _ _ _, PhC.eq _, PhC.slT _ _ _ _, PhC.slT _ _ _ _, PhC.eq _, PhC.slT _ _ _ _, PhC.slT _ _ _ _, PhC.slT _ _ _ _, PhC.eq _, PhC.slT _ _ _ _, PhC.sls _, PhC.slT _ _ _ _, PhC.slT _ _ _ _, PhC.shv _ _ _ _, PhC.eq _, PhC.slT _ _ _ _, PhC.eq _, PhC.eq _, PhC.slT _ _ _ _, PhC.sls _, PhC.slT _ _ _ _, PhC.slT _ _ _ _, PhC.shv _ _ _ _, PhC.eq _, PhC.slT _ _ _ _, PhC.eq _, PhC.eq _, PhC.eq _, PhC.slT _ _ _ _, PhC.sls _, PhC.slT _ _ _ _, PhC.slT _ _ _ _, PhC.eq _, PhC.shv _ _ _ _, PhC.eq _, PhC.eq _, PhC.eq _, PhC.eq _, PhC.eq _, PhC.slT _ _ _ _, PhC.eq _, PhC.eq _, PhC.slT _ _ _ _, PhC.shv _ _ _ _, PhC.eq _, PhC.eq _, PhC.slT _ _ _ _, PhC.eq _, PhC.slT _ _ _ _, PhC.shv _ _ _ _, PhC.eq _, PhC.slT _ _ _ _, PhC.slT _ _ _ _, PhC.slT _ _ _ _, PhC.slT _ _ _ _, PhC.sls _, PhC.slT _ _ _ _, PhC.slT _ _ _ _, PhC.shv _ _ _ _, PhC.eq _, PhC.slT _ _ _ _, PhC.slT _ _ _ _, PhC.slT _ _ _ _, PhC.eq _, PhC.slT _ _ _ _, PhC.sls _, PhC.slT _ _ _ _, PhC.slT _ _ _ _, PhC.shv _ _ _ _, PhC.eq _, PhC.eq _, PhC.eq _, PhC.eq _, PhC.slT _ _ _ _, PhC.eq _, PhC.eq _, PhC.slT _ _ _ _, PhC.shv _ _ _ _, PhC.eq _, PhC.slT _ _ _ _, PhC.slT _ _ _ _, PhC.eq _, PhC.slT _ _ _ _, PhC.sls _, PhC.slT _ _ _ _, PhC.slT _ _ _ _, PhC.shv _ _ _ _, PhC.eq _, PhC.eq _, PhC.eq _, PhC.eq _, PhC.slT _ _ _ _, PhC.eq _, PhC.eq _, PhC.slT _ _ _ _, PhC.shv _ _ _ _, PhC.eq _, PhC.slT _ _ _ _, PhC.slT _ _ _ _, PhC.slT _ _ _ _, PhC.sls _, PhC.slT _ _ _ _, PhC.slT _ _ _ _, PhC.shv _ _ _ _, PhC.eq _, trivial⟩ (fun b W => ⟨b, rfl⟩) ?_ ?_
  ·intro W hC0
   have hC := (Up.drew w10).cel.trans hC0
   refine allL.cons (.inl (.inl rfl)) ?_
   refine allL.cons (.inr ⟨rfl, rfl, TU.p (PEv.move (.tmp rfl)) (SlT.cel hT8 hC)⟩) ?_
   refine allL.cons (.inr ⟨rfl, rfl, TU.c (enter_call0 (.cons (.func _) .nil) (Tryz.en95)) (number_any _ _) (by rintro _ W1 ⟨rfl, u⟩; exact ⟨u, rfl⟩)⟩) ?_
   refine allL.cons (.inr ⟨rfl, rfl, TU.r (REv.buildSlice (xs := ([num1 7] : List Fld)) (enc := Fld.cells) (mk := fun x : Fld => .agg (Fld.cells x)) Tryz.underlying97 Tryz.sizeOf126 Tryz.zeroValue126 rfl (by decide) (fun _ => rfl) (fun _ => rfl) (.cons (.tmp rfl) .nil) rfl) (by rintro _ W1 ⟨B, c, rfl, N, y, x⟩; exact ⟨N.up, SlT.lit ⟨B, c, rfl, N, y, x⟩⟩)⟩) ?_
   refine allL.cons (.inr ⟨rfl, rfl, TU.c (enter_call0 .nil (Tryz.en108)) (place_any _) (fun v W1 h => ⟨h.2, h.1⟩)⟩) ?_
   refine allL.cons (.inr ⟨rfl, rfl, TU.p (PEv.build (cs := Fld.cells ⟨13, 0, 39⟩) Tryz.underlying126 Tryz.zeroValue126 Tryz.places126 (.cons (.func _) (.cons (.const _) (.cons (.const _) .nil))) rfl) rfl⟩) ?_
   refine allL.cons (.inr ⟨rfl, rfl, TU.r (REv.buildSlice (xs := ([⟨13, 0, 39⟩] : List Fld)) (enc := Fld.cells) (mk := fun x : Fld => .agg (Fld.cells x)) Tryz.underlying97 Tryz.sizeOf126 Tryz.zeroValue126 rfl (by decide) (fun _ => rfl) (fun _ => rfl) (.cons (.tmp rfl) .nil) rfl) (by rintro _ W1 ⟨B, c, rfl, N, y, x⟩; exact ⟨N.up, SlT.lit ⟨B, c, rfl, N, y, x⟩⟩)⟩) ?_
   refine allL.cons (.inr ⟨rfl, rfl, TU.p (PEv.move (.tmp rfl)) (SlT.cel hT11 hC)⟩) ?_
   refine allL.cons (.inr ⟨rfl, rfl, TU.c (enter_call0 .nil (Tryz.en109)) (span_any _) (fun v W1 h => ⟨h.2, h.1⟩)⟩) ?_
   refine allL.cons (.inr ⟨rfl, rfl, TU.p (PEv.build (cs := Fld.cells ⟨16, -10000000, 10000000⟩) Tryz.underlying126 Tryz.zeroValue126 Tryz.places126 (.cons (.func _) (.cons (.const _) (.cons (.const _) .nil))) rfl) rfl⟩) ?_
   refine allL.cons (.inr ⟨rfl, rfl, TU.r (REv.buildSlice (xs := ([⟨16, -10000000, 10000000⟩] : List Fld)) (enc := Fld.cells) (mk := fun x : Fld => .agg (Fld.cells x)) Tryz.underlying97 Tryz.sizeOf126 Tryz.zeroValue126 rfl (by decide) (fun _ => rfl) (fun _ => rfl) (.cons (.tmp rfl) .nil) rfl) (by rintro _ W1 ⟨B, c, rfl, N, y, x⟩; exact ⟨N.up, SlT.lit ⟨B, c, rfl, N, y, x⟩⟩)⟩) ?_
   refine allL.cons (.inr ⟨rfl, rfl, TU.open (d := 23) rfl (by rintro _ ⟨⟨a23, c23, rfl, x23⟩, _⟩; exact TU.open (d := 25) rfl (by rintro _ ⟨⟨a25, c25, rfl, x25⟩, _⟩; exact TU.open (d := 26) rfl (by rintro _ ⟨⟨a26, c26, rfl, x26⟩, _⟩; exact TU.open (d := 28) rfl (by rintro _ ⟨⟨a28, c28, rfl, x28⟩, _⟩; exact TU.open (d := 29) rfl (by rintro _ ⟨⟨a29, c29, rfl, x29⟩, _⟩; exact TU.open (d := 30) rfl (by rintro _ ⟨⟨a30, c30, rfl, x30⟩, _⟩; exact TU.open (d := 32) rfl (by rintro _ ⟨⟨a32, c32, rfl, x32⟩, _⟩; exact TU.r (REv.buildSlice (xs := [(a23, List.length (fIds), c23), (a25, List.length ([num1 7]), c25), (a26, List.length (fPlace), c26), (a28, List.length ([⟨13, 0, 39⟩]), c28), (a29, List.length (fRec), c29), (a30, List.length (fSpan), c30), (a32, List.length ([⟨16, -10000000, 10000000⟩]), c32)]) (enc := fun t => #[slv t]) (mk := slv) Tryz.underlying150 Tryz.sizeOf97 Tryz.zeroValue97 rfl (by decide) (fun _ => rfl) (fun _ => rfl) (.cons (.tmp rfl) (.cons (.tmp rfl) (.cons (.tmp rfl) (.cons (.tmp rfl) (.cons (.tmp rfl) (.cons (.tmp rfl) (.cons (.tmp rfl) .nil))))))) rfl) (by rintro _ W1 ⟨B, c, rfl, N, y, x⟩; exact ⟨N.up, _, Sl.of_els (Els.vals x), (AllSl.up N.up (vs := List.map slv [(a23, List.length (fIds), c23), (a25, List.length ([num1 7]), c25), (a26, List.length (fPlace), c26), (a28, List.length ([⟨13, 0, 39⟩]), c28), (a29, List.length (fRec), c29), (a30, List.length (fSpan), c30), (a32, List.length ([⟨16, -10000000, 10000000⟩]), c32)]) (xss := [fIds, [num1 7], fPlace, [⟨13, 0, 39⟩], fRec, fSpan, [⟨16, -10000000, 10000000⟩]]) ⟨Sl.of_els x23, Sl.of_els x25, Sl.of_els x26, Sl.of_els x28, Sl.of_els x29, Sl.of_els x30, Sl.of_els x32, trivial⟩).at⟩))))))))⟩) ?_
   refine allL.cons (.inr ⟨rfl, rfl, TU.open (d := 33) rfl (by rintro v ⟨vs, ⟨ad, cp, rfl, hE⟩, hl, hx⟩; exact TU.c (enter_call0 (.cons (.tmp rfl) .nil) (Tryz.en107)) (join_any ad cp vs _ _ hE hl hx (by rw [← hl]; decide) (by decide)) (fun v W1 h => ⟨h.2, h.1⟩))⟩) ?_
   refine allL.cons (.inr ⟨rfl, rfl, TU.p (PEv.move (.tmp rfl)) (SlT.cel hT8 hC)⟩) ?_
   refine allL.cons (.inr ⟨rfl, rfl, TU.open (d := 34) rfl (by rintro _ ⟨⟨a34, c34, rfl, x34⟩, p34⟩; exact TU.open (d := 35) rfl (by rintro _ ⟨⟨b35, d35, rfl, y35⟩, q35⟩; exact TU.p (PEv.build (cs := #[.slice a34 (List.length (List.flatten [fIds, [num1 7], fPlace, [⟨13, 0, 39⟩], fRec, fSpan, [⟨16, -10000000, 10000000⟩]])) c34, .slice b35 (List.length (fIds)) d35, .func (.func (restFn 1)) #[] #[], .bool false]) Tryz.underlying99 Tryz.zeroValue99 Tryz.places99 (.cons (.tmp rfl) (.cons (.tmp rfl) (.cons (.func _) (.cons (.const _) .nil)))) rfl) ⟨_, _, rfl, ⟨Sl.of_els x34, p34⟩, ⟨Sl.of_els y35, q35⟩⟩))⟩) ?_
   refine allL.cons (.inl (.inr ⟨rfl, by intro j hj e; simp only [List.mem_cons, List.mem_nil_iff, or_false] at hj; rcases hj with rfl | rfl | rfl | rfl | rfl | rfl | rfl | rfl | rfl | rfl | rfl <;> first | exact absurd e (by decide) | exact ⟨_, _, _, rfl⟩⟩)) ?_
   refine allL.cons (.inr ⟨rfl, rfl, TU.p (PEv.move (.tmp rfl)) (SlT.cel hT8 hC)⟩) ?_
   refine allL.cons (.inr ⟨rfl, rfl, TU.c (enter_call0 .nil (Tryz.en111)) (when_any _) (by rintro _ W1 ⟨rfl, u⟩; exact ⟨u, rfl⟩)⟩) ?_
   refine allL.cons (.inr ⟨rfl, rfl, TU.p (PEv.loadA Tryz.isAgg126 Tryz.sizeOf126 rfl (.tmp rfl) (AggAt.cel hB6.agg hC)) rfl⟩) ?_
   refine allL.cons (.inr ⟨rfl, rfl, TU.r (REv.buildSlice (xs := ([fWhen, fRes] : List Fld)) (enc := Fld.cells) (mk := fun x : Fld => .agg (Fld.cells x)) Tryz.underlying97 Tryz.sizeOf126 Tryz.zeroValue126 rfl (by decide) (fun _ => rfl) (fun _ => rfl) (.cons (.tmp rfl) (.cons (.tmp rfl) .nil)) rfl) (by rintro _ W1 ⟨B, c, rfl, N, y, x⟩; exact ⟨N.up, SlT.lit ⟨B, c, rfl, N, y, x⟩⟩)⟩) ?_
   refine allL.cons (.inr ⟨rfl, rfl, TU.open (d := 37) rfl (by rintro _ ⟨⟨a37, c37, rfl, x37⟩, _⟩; exact TU.open (d := 40) rfl (by rintro _ ⟨⟨a40, c40, rfl, x40⟩, _⟩; exact TU.r (REv.buildSlice (xs := [(a37, List.length (fIds), c37), (a40, List.length ([fWhen, fRes]), c40)]) (enc := fun t => #[slv t]) (mk := slv) Tryz.underlying150 Tryz.sizeOf97 Tryz.zeroValue97 rfl (by decide) (fun _ => rfl) (fun _ => rfl) (.cons (.tmp rfl) (.cons (.tmp rfl) .nil)) rfl) (by rintro _ W1 ⟨B, c, rfl, N, y, x⟩; exact ⟨N.up, _, Sl.of_els (Els.vals x), (AllSl.up N.up (vs := List.map slv [(a37, List.length (fIds), c37), (a40, List.length ([fWhen, fRes]), c40)]) (xss := [fIds, [fWhen, fRes]]) ⟨Sl.of_els x37, Sl.of_els x40, trivial⟩).at⟩)))⟩) ?_
   refine allL.cons (.inr ⟨rfl, rfl, TU.open (d := 41) rfl (by rintro v ⟨vs, ⟨ad, cp, rfl, hE⟩, hl, hx⟩; exact TU.c (enter_call0 (.cons (.tmp rfl) .nil) (Tryz.en107)) (join_any ad cp vs _ _ hE hl hx (by rw [← hl]; decide) (by decide)) (fun v W1 h => ⟨h.2, h.1⟩))⟩) ?_
   refine allL.cons (.inr ⟨rfl, rfl, TU.p (PEv.move (.tmp rfl)) (SlT.cel hT8 hC)⟩) ?_
   refine allL.cons (.inr ⟨rfl, rfl, TU.open (d := 42) rfl (by rintro _ ⟨⟨a42, c42, rfl, x42⟩, p42⟩; exact TU.open (d := 43) rfl (by rintro _ ⟨⟨b43, d43, rfl, y43⟩, q43⟩; exact TU.p (PEv.build (cs := #[.slice a42 (List.length (List.flatten [fIds, [fWhen, fRes]])) c42, .slice b43 (List.length (fIds)) d43, .func (.func (restFn 0)) #[] #[], .bool false]) Tryz.underlying99 Tryz.zeroValue99 Tryz.places99 (.cons (.tmp rfl) (.cons (.tmp rfl) (.cons (.func _) (.cons (.const _) .nil)))) rfl) ⟨_, _, rfl, ⟨Sl.of_els x42, p42⟩, ⟨Sl.of_els y43, q43⟩⟩))⟩) ?_
   refine allL.cons (.inl (.inr ⟨rfl, by intro j hj e; simp only [List.mem_cons, List.mem_nil_iff, or_false] at hj; rcases hj with rfl | rfl | rfl | rfl | rfl | rfl | rfl | rfl | rfl | rfl | rfl <;> first | exact absurd e (by decide) | exact ⟨_, _, _, rfl⟩⟩)) ?_
   refine allL.cons (.inr ⟨rfl, rfl, TU.p (PEv.move (.tmp rfl)) (SlT.cel hT8 hC)⟩) ?_
   refine allL.cons (.inr ⟨rfl, rfl, TU.c (enter_call0 (.cons (.func _) .nil) (Tryz.en95)) (number_any _ _) (by rintro _ W1 ⟨rfl, u⟩; exact ⟨u, rfl⟩)⟩) ?_
   refine allL.cons (.inr ⟨rfl, rfl, TU.c (enter_call0 (.cons (.func _) .nil) (Tryz.en95)) (number_any _ _) (by rintro _ W1 ⟨rfl, u⟩; exact ⟨u, rfl⟩)⟩) ?_
   refine allL.cons (.inr ⟨rfl, rfl, TU.c (enter_call0 .nil (Tryz.en111)) (when_any _) (by rintro _ W1 ⟨rfl, u⟩; exact ⟨u, rfl⟩)⟩) ?_
   refine allL.cons (.inr ⟨rfl, rfl, TU.r (REv.buildSlice (xs := ([num1 7, num1 8, fWhen] : List Fld)) (enc := Fld.cells) (mk := fun x : Fld => .agg (Fld.cells x)) Tryz.underlying97 Tryz.sizeOf126 Tryz.zeroValue126 rfl (by decide) (fun _ => rfl) (fun _ => rfl) (.cons (.tmp rfl) (.cons (.tmp rfl) (.cons (.tmp rfl) .nil))) rfl) (by rintro _ W1 ⟨B, c, rfl, N, y, x⟩; exact ⟨N.up, SlT.lit ⟨B, c, rfl, N, y, x⟩⟩)⟩) ?_
   refine allL.cons (.inr ⟨rfl, rfl, TU.open (d := 45) rfl (by rintro _ ⟨⟨a45, c45, rfl, x45⟩, _⟩; exact TU.open (d := 49) rfl (by rintro _ ⟨⟨a49, c49, rfl, x49⟩, _⟩; exact TU.r (REv.buildSlice (xs := [(a45, List.length (fIds), c45), (a49, List.length ([num1 7, num1 8, fWhen]), c49)]) (enc := fun t => #[slv t]) (mk := slv) Tryz.underlying150 Tryz.sizeOf97 Tryz.zeroValue97 rfl (by decide) (fun _ => rfl) (fun _ => rfl) (.cons (.tmp rfl) (.cons (.tmp rfl) .nil)) rfl) (by rintro _ W1 ⟨B, c, rfl, N, y, x⟩; exact ⟨N.up, _, Sl.of_els (Els.vals x), (AllSl.up N.up (vs := List.map slv [(a45, List.length (fIds), c45), (a49, List.length ([num1 7, num1 8, fWhen]), c49)]) (xss := [fIds, [num1 7, num1 8, fWhen]]) ⟨Sl.of_els x45, Sl.of_els x49, trivial⟩).at⟩)))⟩) ?_
   refine allL.cons (.inr ⟨rfl, rfl, TU.open (d := 50) rfl (by rintro v ⟨vs, ⟨ad, cp, rfl, hE⟩, hl, hx⟩; exact TU.c (enter_call0 (.cons (.tmp rfl) .nil) (Tryz.en107)) (join_any ad cp vs _ _ hE hl hx (by rw [← hl]; decide) (by decide)) (fun v W1 h => ⟨h.2, h.1⟩))⟩) ?_
   refine allL.cons (.inr ⟨rfl, rfl, TU.p (PEv.move (.tmp rfl)) (SlT.cel hT8 hC)⟩) ?_
   refine allL.cons (.inr ⟨rfl, rfl, TU.p (PEv.move (.tmp rfl)) rfl⟩) ?_
   refine allL.cons (.inr ⟨rfl, rfl, TU.open (d := 51) rfl (by rintro _ ⟨⟨a51, c51, rfl, x51⟩, p51⟩; exact TU.open (d := 52) rfl (by rintro _ ⟨⟨b52, d52, rfl, y52⟩, q52⟩; exact TU.p (PEv.build (cs := #[.slice a51 (List.length (List.flatten [fIds, [num1 7, num1 8, fWhen]])) c51, .slice b52 (List.length (fIds)) d52, .func (.func (restFn 2)) #[] #[], .bool false]) Tryz.underlying99 Tryz.zeroValue99 Tryz.places99 (.cons (.tmp rfl) (.cons (.tmp rfl) (.cons (.tmp rfl) (.cons (.const _) .nil)))) rfl) ⟨_, _, rfl, ⟨Sl.of_els x51, p51⟩, ⟨Sl.of_els y52, q52⟩⟩))⟩) ?_
   refine allL.cons (.inl (.inr ⟨rfl, by intro j hj e; simp only [List.mem_cons, List.mem_nil_iff, or_false] at hj; rcases hj with rfl | rfl | rfl | rfl | rfl | rfl | rfl | rfl | rfl | rfl | rfl <;> first | exact absurd e (by decide) | exact ⟨_, _, _, rfl⟩⟩)) ?_
   refine allL.cons (.inr ⟨rfl, rfl, TU.c (enter_call0 (.cons (.func _) .nil) (Tryz.en95)) (number_any _ _) (by rintro _ W1 ⟨rfl, u⟩; exact ⟨u, rfl⟩)⟩) ?_
   refine allL.cons (.inr ⟨rfl, rfl, TU.c (enter_call0 (.cons (.func _) .nil) (Tryz.en95)) (number_any _ _) (by rintro _ W1 ⟨rfl, u⟩; exact ⟨u, rfl⟩)⟩) ?_
   refine allL.cons (.inr ⟨rfl, rfl, TU.c (enter_call0 (.cons (.func _) .nil) (Tryz.en95)) (number_any _ _) (by rintro _ W1 ⟨rfl, u⟩; exact ⟨u, rfl⟩)⟩) ?_
   refine allL.cons (.inr ⟨rfl, rfl, TU.c (enter_call0 .nil (Tryz.en111)) (when_any _) (by rintro _ W1 ⟨rfl, u⟩; exact ⟨u, rfl⟩)⟩) ?_
   refine allL.cons (.inr ⟨rfl, rfl, TU.r (REv.buildSlice (xs := ([num1 7, num1 9, num1 10, fWhen] : List Fld)) (enc := Fld.cells) (mk := fun x : Fld => .agg (Fld.cells x)) Tryz.underlying97 Tryz.sizeOf126 Tryz.zeroValue126 rfl (by decide) (fun _ => rfl) (fun _ => rfl) (.cons (.tmp rfl) (.cons (.tmp rfl) (.cons (.tmp rfl) (.cons (.tmp rfl) .nil)))) rfl) (by rintro _ W1 ⟨B, c, rfl, N, y, x⟩; exact ⟨N.up, SlT.lit ⟨B, c, rfl, N, y, x⟩⟩)⟩) ?_
   refine allL.cons (.inr ⟨rfl, rfl, TU.c (enter_call0 (.cons (.func _) .nil) (Tryz.en95)) (number_any _ _) (by rintro _ W1 ⟨rfl, u⟩; exact ⟨u, rfl⟩)⟩) ?_
   refine allL.cons (.inr ⟨rfl, rfl, TU.c (enter_call0 .nil (Tryz.en111)) (when_any _) (by rintro _ W1 ⟨rfl, u⟩; exact ⟨u, rfl⟩)⟩) ?_
   refine allL.cons (.inr ⟨rfl, rfl, TU.r (REv.buildSlice (xs := ([num1 7, fWhen] : List Fld)) (enc := Fld.cells) (mk := fun x : Fld => .agg (Fld.cells x)) Tryz.underlying97 Tryz.sizeOf126 Tryz.zeroValue126 rfl (by decide) (fun _ => rfl) (fun _ => rfl) (.cons (.tmp rfl) (.cons (.tmp rfl) .nil)) rfl) (by rintro _ W1 ⟨B, c, rfl, N, y, x⟩; exact ⟨N.up, SlT.lit ⟨B, c, rfl, N, y, x⟩⟩)⟩) ?_
   refine allL.cons (.inr ⟨rfl, rfl, TU.open (d := 59) rfl (by rintro _ ⟨⟨a59, c59, rfl, x59⟩, p59⟩; exact TU.open (d := 62) rfl (by rintro _ ⟨⟨b62, d62, rfl, y62⟩, q62⟩; exact TU.p (PEv.build (cs := #[.slice a59 (List.length ([num1 7, num1 9, num1 10, fWhen])) c59, .slice b62 (List.length ([num1 7, fWhen])) d62, .func (.func (restFn 0)) #[] #[], .bool false]) Tryz.underlying99 Tryz.zeroValue99 Tryz.places99 (.cons (.tmp rfl) (.cons (.tmp rfl) (.cons (.func _) (.cons (.const _) .nil)))) rfl) ⟨_, _, rfl, ⟨Sl.of_els x59, p59⟩, ⟨Sl.of_els y62, q62⟩⟩))⟩) ?_
   refine allL.cons (.inl (.inr ⟨rfl, by intro j hj e; simp only [List.mem_cons, List.mem_nil_iff, or_false] at hj; rcases hj with rfl | rfl | rfl | rfl | rfl | rfl | rfl | rfl | rfl | rfl | rfl <;> first | exact absurd e (by decide) | exact ⟨_, _, _, rfl⟩⟩)) ?_
   refine allL.cons (.inr ⟨rfl, rfl, TU.c (enter_call0 (.cons (.func _) .nil) (Tryz.en95)) (number_any _ _) (by rintro _ W1 ⟨rfl, u⟩; exact ⟨u, rfl⟩)⟩) ?_
   refine allL.cons (.inr ⟨rfl, rfl, TU.r (REv.buildSlice (xs := ([num1 10] : List Fld)) (enc := Fld.cells) (mk := fun x : Fld => .agg (Fld.cells x)) Tryz.underlying97 Tryz.sizeOf126 Tryz.zeroValue126 rfl (by decide) (fun _ => rfl) (fun _ => rfl) (.cons (.tmp rfl) .nil) rfl) (by rintro _ W1 ⟨B, c, rfl, N, y, x⟩; exact ⟨N.up, SlT.lit ⟨B, c, rfl, N, y, x⟩⟩)⟩) ?_
   refine allL.cons (.inr ⟨rfl, rfl, TU.c (enter_call0 (.cons (.func _) .nil) (Tryz.en95)) (number_any _ _) (by rintro _ W1 ⟨rfl, u⟩; exact ⟨u, rfl⟩)⟩) ?_
   refine allL.cons (.inr ⟨rfl, rfl, TU.r (REv.buildSlice (xs := ([num1 10] : List Fld)) (enc := Fld.cells) (mk := fun x : Fld => .agg (Fld.cells x)) Tryz.underlying97 Tryz.sizeOf126 Tryz.zeroValue126 rfl (by decide) (fun _ => rfl) (fun _ => rfl) (.cons (.tmp rfl) .nil) rfl) (by rintro _ W1 ⟨B, c, rfl, N, y, x⟩; exact ⟨N.up, SlT.lit ⟨B, c, rfl, N, y, x⟩⟩)⟩) ?_
   refine allL.cons (.inr ⟨rfl, rfl, TU.open (d := 65) rfl (by rintro _ ⟨⟨a65, c65, rfl, x65⟩, p65⟩; exact TU.open (d := 67) rfl (by rintro _ ⟨⟨b67, d67, rfl, y67⟩, q67⟩; exact TU.p (PEv.build (cs := #[.slice a65 (List.length ([num1 10])) c65, .slice b67 (List.length ([num1 10])) d67, .func (.func (restFn 0)) #[] #[], .bool true]) Tryz.underlying99 Tryz.zeroValue99 Tryz.places99 (.cons (.tmp rfl) (.cons (.tmp rfl) (.cons (.func _) (.cons (.const _) .nil)))) rfl) ⟨_, _, rfl, ⟨Sl.of_els x65, p65⟩, ⟨Sl.of_els y67, q67⟩⟩))⟩) ?_
   refine allL.cons (.inl (.inr ⟨rfl, by intro j hj e; simp only [List.mem_cons, List.mem_nil_iff, or_false] at hj; rcases hj with rfl | rfl | rfl | rfl | rfl | rfl | rfl | rfl | rfl | rfl | rfl <;> first | exact absurd e (by decide) | exact ⟨_, _, _, rfl⟩⟩)) ?_
   refine allL.cons (.inr ⟨rfl, rfl, TU.p (PEv.move (.tmp rfl)) (SlT.cel hT8 hC)⟩) ?_
   refine allL.cons (.inr ⟨rfl, rfl, TU.c (enter_call0 .nil (Tryz.en108)) (place_any _) (fun v W1 h => ⟨h.2, h.1⟩)⟩) ?_
   refine allL.cons (.inr ⟨rfl, rfl, TU.p (PEv.move (.tmp rfl)) (SlT.cel hT11 hC)⟩) ?_
   refine allL.cons (.inr ⟨rfl, rfl, TU.c (enter_call0 .nil (Tryz.en109)) (span_any _) (fun v W1 h => ⟨h.2, h.1⟩)⟩) ?_
   refine allL.cons (.inr ⟨rfl, rfl, TU.open (d := 69) rfl (by rintro _ ⟨⟨a69, c69, rfl, x69⟩, _⟩; exact TU.open (d := 70) rfl (by rintro _ ⟨⟨a70, c70, rfl, x70⟩, _⟩; exact TU.open (d := 71) rfl (by rintro _ ⟨⟨a71, c71, rfl, x71⟩, _⟩; exact TU.open (d := 72) rfl (by rintro _ ⟨⟨a72, c72, rfl, x72⟩, _⟩; exact TU.r (REv.buildSlice (xs := [(a69, List.length (fIds), c69), (a70, List.length (fPlace), c70), (a71, List.length (fRec), c71), (a72, List.length (fSpan), c72)]) (enc := fun t => #[slv t]) (mk := slv) Tryz.underlying150 Tryz.sizeOf97 Tryz.zeroValue97 rfl (by decide) (fun _ => rfl) (fun _ => rfl) (.cons (.tmp rfl) (.cons (.tmp rfl) (.cons (.tmp rfl) (.cons (.tmp rfl) .nil)))) rfl) (by rintro _ W1 ⟨B, c, rfl, N, y, x⟩; exact ⟨N.up, _, Sl.of_els (Els.vals x), (AllSl.up N.up (vs := List.map slv [(a69, List.length (fIds), c69), (a70, List.length (fPlace), c70), (a71, List.length (fRec), c71), (a72, List.length (fSpan), c72)]) (xss := [fIds, fPlace, fRec, fSpan]) ⟨Sl.of_els x69, Sl.of_els x70, Sl.of_els x71, Sl.of_els x72, trivial⟩).at⟩)))))⟩) ?_
   refine allL.cons (.inr ⟨rfl, rfl, TU.open (d := 73) rfl (by rintro v ⟨vs, ⟨ad, cp, rfl, hE⟩, hl, hx⟩; exact TU.c (enter_call0 (.cons (.tmp rfl) .nil) (Tryz.en107)) (join_any ad cp vs _ _ hE hl hx (by rw [← hl]; decide) (by decide)) (fun v W1 h => ⟨h.2, h.1⟩))⟩) ?_
   refine allL.cons (.inr ⟨rfl, rfl, TU.p (PEv.move (.tmp rfl)) (SlT.cel hT8 hC)⟩) ?_
   refine allL.cons (.inr ⟨rfl, rfl, TU.open (d := 74) rfl (by rintro _ ⟨⟨a74, c74, rfl, x74⟩, p74⟩; exact TU.open (d := 75) rfl (by rintro _ ⟨⟨b75, d75, rfl, y75⟩, q75⟩; exact TU.p (PEv.build (cs := #[.slice a74 (List.length (List.flatten [fIds, fPlace, fRec, fSpan])) c74, .slice b75 (List.length (fIds)) d75, .func (.func (restFn 1)) #[] #[], .bool false]) Tryz.underlying99 Tryz.zeroValue99 Tryz.places99 (.cons (.tmp rfl) (.cons (.tmp rfl) (.cons (.func _) (.cons (.const _) .nil)))) rfl) ⟨_, _, rfl, ⟨Sl.of_els x74, p74⟩, ⟨Sl.of_els y75, q75⟩⟩))⟩) ?_
   refine allL.cons (.inl (.inr ⟨rfl, by intro j hj e; simp only [List.mem_cons, List.mem_nil_iff, or_false] at hj; rcases hj with rfl | rfl | rfl | rfl | rfl | rfl | rfl | rfl | rfl | rfl | rfl <;> first | exact absurd e (by decide) | exact ⟨_, _, _, rfl⟩⟩)) ?_
   refine allL.cons (.inr ⟨rfl, rfl, TU.p (PEv.move (.tmp rfl)) (SlT.cel hT8 hC)⟩) ?_
   refine allL.cons (.inr ⟨rfl, rfl, TU.p (PEv.move (.tmp rfl)) (SlT.cel hT19 hC)⟩) ?_
   refine allL.cons (.inr ⟨rfl, rfl, TU.c (enter_call0 .nil (Tryz.en109)) (span_any _) (fun v W1 h => ⟨h.2, h.1⟩)⟩) ?_
   refine allL.cons (.inr ⟨rfl, rfl, TU.p (PEv.loadA Tryz.isAgg126 Tryz.sizeOf126 rfl (.tmp rfl) (AggAt.cel hB5.agg hC)) rfl⟩) ?_
   refine allL.cons (.inr ⟨rfl, rfl, TU.r (REv.buildSlice (xs := ([fWho] : List Fld)) (enc := Fld.cells) (mk := fun x : Fld => .agg (Fld.cells x)) Tryz.underlying97 Tryz.sizeOf126 Tryz.zeroValue126 rfl (by decide) (fun _ => rfl) (fun _ => rfl) (.cons (.tmp rfl) .nil) rfl) (by rintro _ W1 ⟨B, c, rfl, N, y, x⟩; exact ⟨N.up, SlT.lit ⟨B, c, rfl, N, y, x⟩⟩)⟩) ?_
   refine allL.cons (.inr ⟨rfl, rfl, TU.open (d := 77) rfl (by rintro _ ⟨⟨a77, c77, rfl, x77⟩, _⟩; exact TU.open (d := 78) rfl (by rintro _ ⟨⟨a78, c78, rfl, x78⟩, _⟩; exact TU.open (d := 79) rfl (by rintro _ ⟨⟨a79, c79, rfl, x79⟩, _⟩; exact TU.open (d := 81) rfl (by rintro _ ⟨⟨a81, c81, rfl, x81⟩, _⟩; exact TU.r (REv.buildSlice (xs := [(a77, List.length (fIds), c77), (a78, List.length (fNamed), c78), (a79, List.length (fSpan), c79), (a81, List.length ([fWho]), c81)]) (enc := fun t => #[slv t]) (mk := slv) Tryz.underlying150 Tryz.sizeOf97 Tryz.zeroValue97 rfl (by decide) (fun _ => rfl) (fun _ => rfl) (.cons (.tmp rfl) (.cons (.tmp rfl) (.cons (.tmp rfl) (.cons (.tmp rfl) .nil)))) rfl) (by rintro _ W1 ⟨B, c, rfl, N, y, x⟩; exact ⟨N.up, _, Sl.of_els (Els.vals x), (AllSl.up N.up (vs := List.map slv [(a77, List.length (fIds), c77), (a78, List.length (fNamed), c78), (a79, List.length (fSpan), c79), (a81, List.length ([fWho]), c81)]) (xss := [fIds, fNamed, fSpan, [fWho]]) ⟨Sl.of_els x77, Sl.of_els x78, Sl.of_els x79, Sl.of_els x81, trivial⟩).at⟩)))))⟩) ?_
   refine allL.cons (.inr ⟨rfl, rfl, TU.open (d := 82) rfl (by rintro v ⟨vs, ⟨ad, cp, rfl, hE⟩, hl, hx⟩; exact TU.c (enter_call0 (.cons (.tmp rfl) .nil) (Tryz.en107)) (join_any ad cp vs _ _ hE hl hx (by rw [← hl]; decide) (by decide)) (fun v W1 h => ⟨h.2, h.1⟩))⟩) ?_
   refine allL.cons (.inr ⟨rfl, rfl, TU.p (PEv.move (.tmp rfl)) (SlT.cel hT8 hC)⟩) ?_
   refine allL.cons (.inr ⟨rfl, rfl, TU.open (d := 83) rfl (by rintro _ ⟨⟨a83, c83, rfl, x83⟩, p83⟩; exact TU.open (d := 84) rfl (by rintro _ ⟨⟨b84, d84, rfl, y84⟩, q84⟩; exact TU.p (PEv.build (cs := #[.slice a83 (List.length (List.flatten [fIds, fNamed, fSpan, [fWho]])) c83, .slice b84 (List.length (fIds)) d84, .func (.func (restFn 1)) #[] #[], .bool false]) Tryz.underlying99 Tryz.zeroValue99 Tryz.places99 (.cons (.tmp rfl) (.cons (.tmp rfl) (.cons (.func _) (.cons (.const _) .nil)))) rfl) ⟨_, _, rfl, ⟨Sl.of_els x83, p83⟩, ⟨Sl.of_els y84, q84⟩⟩))⟩) ?_
   refine allL.cons (.inl (.inr ⟨rfl, by intro j hj e; simp only [List.mem_cons, List.mem_nil_iff, or_false] at hj; rcases hj with rfl | rfl | rfl | rfl | rfl | rfl | rfl | rfl | rfl | rfl | rfl <;> first | exact absurd e (by decide) | exact ⟨_, _, _, rfl⟩⟩)) ?_
   refine allL.cons (.inr ⟨rfl, rfl, TU.c (enter_call0 (.cons (.func _) .nil) (Tryz.en95)) (number_any _ _) (by rintro _ W1 ⟨rfl, u⟩; exact ⟨u, rfl⟩)⟩) ?_
   refine allL.cons (.inr ⟨rfl, rfl, TU.p (PEv.loadA Tryz.isAgg126 Tryz.sizeOf126 rfl (.tmp rfl) (AggAt.cel hB5.agg hC)) rfl⟩) ?_
   refine allL.cons (.inr ⟨rfl, rfl, TU.c (enter_call0 .nil (Tryz.en111)) (when_any _) (by rintro _ W1 ⟨rfl, u⟩; exact ⟨u, rfl⟩)⟩) ?_
   refine allL.cons (.inr ⟨rfl, rfl, TU.r (REv.buildSlice (xs := ([num1 8, fWho, fWhen] : List Fld)) (enc := Fld.cells) (mk := fun x : Fld => .agg (Fld.cells x)) Tryz.underlying97 Tryz.sizeOf126 Tryz.zeroValue126 rfl (by decide) (fun _ => rfl) (fun _ => rfl) (.cons (.tmp rfl) (.cons (.tmp rfl) (.cons (.tmp rfl) .nil))) rfl) (by rintro _ W1 ⟨B, c, rfl, N, y, x⟩; exact ⟨N.up, SlT.lit ⟨B, c, rfl, N, y, x⟩⟩)⟩) ?_
   refine allL.cons (.inr ⟨rfl, rfl, TU.c (enter_call0 (.cons (.func _) .nil) (Tryz.en95)) (number_any _ _) (by rintro _ W1 ⟨rfl, u⟩; exact ⟨u, rfl⟩)⟩) ?_
   refine allL.cons (.inr ⟨rfl, rfl, TU.p (PEv.loadA Tryz.isAgg126 Tryz.sizeOf126 rfl (.tmp rfl) (AggAt.cel hB5.agg hC)) rfl⟩) ?_
   refine allL.cons (.inr ⟨rfl, rfl, TU.r (REv.buildSlice (xs := ([num1 8, fWho] : List Fld)) (enc := Fld.cells) (mk := fun x : Fld => .agg (Fld.cells x)) Tryz.underlying97 Tryz.sizeOf126 Tryz.zeroValue126 rfl (by decide) (fun _ => rfl) (fun _ => rfl) (.cons (.tmp rfl) (.cons (.tmp rfl) .nil)) rfl) (by rintro _ W1 ⟨B, c, rfl, N, y, x⟩; exact ⟨N.up, SlT.lit ⟨B, c, rfl, N, y, x⟩⟩)⟩) ?_
   refine allL.cons (.inr ⟨rfl, rfl, TU.open (d := 89) rfl (by rintro _ ⟨⟨a89, c89, rfl, x89⟩, p89⟩; exact TU.open (d := 92) rfl (by rintro _ ⟨⟨b92, d92, rfl, y92⟩, q92⟩; exact TU.p (PEv.build (cs := #[.slice a89 (List.length ([num1 8, fWho, fWhen])) c89, .slice b92 (List.length ([num1 8, fWho])) d92, .func (.func (restFn 0)) #[] #[], .bool false]) Tryz.underlying99 Tryz.zeroValue99 Tryz.places99 (.cons (.tmp rfl) (.cons (.tmp rfl) (.cons (.func _) (.cons (.const _) .nil)))) rfl) ⟨_, _, rfl, ⟨Sl.of_els x89, p89⟩, ⟨Sl.of_els y92, q92⟩⟩))⟩) ?_
   refine allL.cons (.inl (.inr ⟨rfl, by intro j hj e; simp only [List.mem_cons, List.mem_nil_iff, or_false] at hj; rcases hj with rfl | rfl | rfl | rfl | rfl | rfl | rfl | rfl | rfl | rfl | rfl <;> first | exact absurd e (by decide) | exact ⟨_, _, _, rfl⟩⟩)) ?_
   refine allL.cons (.inr ⟨rfl, rfl, TU.p (PEv.move (.tmp rfl)) (SlT.cel hT8 hC)⟩) ?_
   refine allL.cons (.inr ⟨rfl, rfl, TU.c (enter_call0 .nil (Tryz.en108)) (place_any _) (fun v W1 h => ⟨h.2, h.1⟩)⟩) ?_
   refine allL.cons (.inr ⟨rfl, rfl, TU.c (enter_call0 .nil (Tryz.en111)) (when_any _) (by rintro _ W1 ⟨rfl, u⟩; exact ⟨u, rfl⟩)⟩) ?_
   refine allL.cons (.inr ⟨rfl, rfl, TU.r (REv.buildSlice (xs := ([fWhen] : List Fld)) (enc := Fld.cells) (mk := fun x : Fld => .agg (Fld.cells x)) Tryz.underlying97 Tryz.sizeOf126 Tryz.zeroValue126 rfl (by decide) (fun _ => rfl) (fun _ => rfl) (.cons (.tmp rfl) .nil) rfl) (by rintro _ W1 ⟨B, c, rfl, N, y, x⟩; exact ⟨N.up, SlT.lit ⟨B, c, rfl, N, y, x⟩⟩)⟩) ?_
   refine allL.cons (.inr ⟨rfl, rfl, TU.open (d := 94) rfl (by rintro _ ⟨⟨a94, c94, rfl, x94⟩, _⟩; exact TU.open (d := 95) rfl (by rintro _ ⟨⟨a95, c95, rfl, x95⟩, _⟩; exact TU.open (d := 97) rfl (by rintro _ ⟨⟨a97, c97, rfl, x97⟩, _⟩; exact TU.r (REv.buildSlice (xs := [(a94, List.length (fIds), c94), (a95, List.length (fPlace), c95), (a97, List.length ([fWhen]), c97)]) (enc := fun t => #[slv t]) (mk := slv) Tryz.underlying150 Tryz.sizeOf97 Tryz.zeroValue97 rfl (by decide) (fun _ => rfl) (fun _ => rfl) (.cons (.tmp rfl) (.cons (.tmp rfl) (.cons (.tmp rfl) .nil))) rfl) (by rintro _ W1 ⟨B, c, rfl, N, y, x⟩; exact ⟨N.up, _, Sl.of_els (Els.vals x), (AllSl.up N.up (vs := List.map slv [(a94, List.length (fIds), c94), (a95, List.length (fPlace), c95), (a97, List.length ([fWhen]), c97)]) (xss := [fIds, fPlace, [fWhen]]) ⟨Sl.of_els x94, Sl.of_els x95, Sl.of_els x97, trivial⟩).at⟩))))⟩) ?_
   refine allL.cons (.inr ⟨rfl, rfl, TU.open (d := 98) rfl (by rintro v ⟨vs, ⟨ad, cp, rfl, hE⟩, hl, hx⟩; exact TU.c (enter_call0 (.cons (.tmp rfl) .nil) (Tryz.en107)) (join_any ad cp vs _ _ hE hl hx (by rw [← hl]; decide) (by decide)) (fun v W1 h => ⟨h.2, h.1⟩))⟩) ?_
   refine allL.cons (.inr ⟨rfl, rfl, TU.p (PEv.move (.tmp rfl)) (SlT.cel hT8 hC)⟩) ?_
   refine allL.cons (.inr ⟨rfl, rfl, TU.open (d := 99) rfl (by rintro _ ⟨⟨a99, c99, rfl, x99⟩, p99⟩; exact TU.open (d := 100) rfl (by rintro _ ⟨⟨b100, d100, rfl, y100⟩, q100⟩; exact TU.p (PEv.build (cs := #[.slice a99 (List.length (List.flatten [fIds, fPlace, [fWhen]])) c99, .slice b100 (List.length (fIds)) d100, .func (.func (restFn 0)) #[] #[], .bool false]) Tryz.underlying99 Tryz.zeroValue99 Tryz.places99 (.cons (.tmp rfl) (.cons (.tmp rfl) (.cons (.func _) (.cons (.const _) .nil)))) rfl) ⟨_, _, rfl, ⟨Sl.of_els x99, p99⟩, ⟨Sl.of_els y100, q100⟩⟩))⟩) ?_
   refine allL.cons (.inl (.inr ⟨rfl, by intro j hj e; simp only [List.mem_cons, List.mem_nil_iff, or_false] at hj; rcases hj with rfl | rfl | rfl | rfl | rfl | rfl | rfl | rfl | rfl | rfl | rfl <;> first | exact absurd e (by decide) | exact ⟨_, _, _, rfl⟩⟩)) ?_
   refine allL.cons (.inr ⟨rfl, rfl, TU.c (enter_call0 (.cons (.func _) .nil) (Tryz.en95)) (number_any _ _) (by rintro _ W1 ⟨rfl, u⟩; exact ⟨u, rfl⟩)⟩) ?_
   refine allL.cons (.inr ⟨rfl, rfl, TU.c (enter_call0 .nil (Tryz.en111)) (when_any _) (by rintro _ W1 ⟨rfl, u⟩; exact ⟨u, rfl⟩)⟩) ?_
   refine allL.cons (.inr ⟨rfl, rfl, TU.p (PEv.loadA Tryz.isAgg126 Tryz.sizeOf126 rfl (.tmp rfl) (AggAt.cel hB6.agg hC)) rfl⟩) ?_
   refine allL.cons (.inr ⟨rfl, rfl, TU.r (REv.buildSlice (xs := ([num1 14, fWhen, fRes] : List Fld)) (enc := Fld.cells) (mk := fun x : Fld => .agg (Fld.cells x)) Tryz.underlying97 Tryz.sizeOf126 Tryz.zeroValue126 rfl (by decide) (fun _ => rfl) (fun _ => rfl) (.cons (.tmp rfl) (.cons (.tmp rfl) (.cons (.tmp rfl) .nil))) rfl) (by rintro _ W1 ⟨B, c, rfl, N, y, x⟩; exact ⟨N.up, SlT.lit ⟨B, c, rfl, N, y, x⟩⟩)⟩) ?_
   refine allL.cons (.inr ⟨rfl, rfl, TU.c (enter_call0 (.cons (.func _) .nil) (Tryz.en95)) (number_any _ _) (by rintro _ W1 ⟨rfl, u⟩; exact ⟨u, rfl⟩)⟩) ?_
   refine allL.cons (.inr ⟨rfl, rfl, TU.c (enter_call0 .nil (Tryz.en111)) (when_any _) (by rintro _ W1 ⟨rfl, u⟩; exact ⟨u, rfl⟩)⟩) ?_
   refine allL.cons (.inr ⟨rfl, rfl, TU.r (REv.buildSlice (xs := ([num1 14, fWhen] : List Fld)) (enc := Fld.cells) (mk := fun x : Fld => .agg (Fld.cells x)) Tryz.underlying97 Tryz.sizeOf126 Tryz.zeroValue126 rfl (by decide) (fun _ => rfl) (fun _ => rfl) (.cons (.tmp rfl) (.cons (.tmp rfl) .nil)) rfl) (by rintro _ W1 ⟨B, c, rfl, N, y, x⟩; exact ⟨N.up, SlT.lit ⟨B, c, rfl, N, y, x⟩⟩)⟩) ?_
   refine allL.cons (.inr ⟨rfl, rfl, TU.open (d := 105) rfl (by rintro _ ⟨⟨a105, c105, rfl, x105⟩, p105⟩; exact TU.open (d := 108) rfl (by rintro _ ⟨⟨b108, d108, rfl, y108⟩, q108⟩; exact TU.p (PEv.build (cs := #[.slice a105 (List.length ([num1 14, fWhen, fRes])) c105, .slice b108 (List.length ([num1 14, fWhen])) d108, .func (.func (restFn 0)) #[] #[], .bool false]) Tryz.underlying99 Tryz.zeroValue99 Tryz.places99 (.cons (.tmp rfl) (.cons (.tmp rfl) (.cons (.func _) (.cons (.const _) .nil)))) rfl) ⟨_, _, rfl, ⟨Sl.of_els x105, p105⟩, ⟨Sl.of_els y108, q108⟩⟩))⟩) ?_
   refine allL.cons (.inl (.inr ⟨rfl, by intro j hj e; simp only [List.mem_cons, List.mem_nil_iff, or_false] at hj; rcases hj with rfl | rfl | rfl | rfl | rfl | rfl | rfl | rfl | rfl | rfl | rfl <;> first | exact absurd e (by decide) | exact ⟨_, _, _, rfl⟩⟩)) ?_
   refine allL.cons (.inr ⟨rfl, rfl, TU.p (PEv.move (.tmp rfl)) (SlT.cel hT8 hC)⟩) ?_
   refine allL.cons (.inr ⟨rfl, rfl, TU.c (enter_call0 .nil (Tryz.en108)) (place_any _) (fun v W1 h => ⟨h.2, h.1⟩)⟩) ?_
   refine allL.cons (.inr ⟨rfl, rfl, TU.c (enter_call0 .nil (Tryz.en109)) (span_any _) (fun v W1 h => ⟨h.2, h.1⟩)⟩) ?_
   refine allL.cons (.inr ⟨rfl, rfl, TU.open (d := 110) rfl (by rintro _ ⟨⟨a110, c110, rfl, x110⟩, _⟩; exact TU.open (d := 111) rfl (by rintro _ ⟨⟨a111, c111, rfl, x111⟩, _⟩; exact TU.open (d := 112) rfl (by rintro _ ⟨⟨a112, c112, rfl, x112⟩, _⟩; exact TU.r (REv.buildSlice (xs := [(a110, List.length (fIds), c110), (a111, List.length (fPlace), c111), (a112, List.length (fSpan), c112)]) (enc := fun t => #[slv t]) (mk := slv) Tryz.underlying150 Tryz.sizeOf97 Tryz.zeroValue97 rfl (by decide) (fun _ => rfl) (fun _ => rfl) (.cons (.tmp rfl) (.cons (.tmp rfl) (.cons (.tmp rfl) .nil))) rfl) (by rintro _ W1 ⟨B, c, rfl, N, y, x⟩; exact ⟨N.up, _, Sl.of_els (Els.vals x), (AllSl.up N.up (vs := List.map slv [(a110, List.length (fIds), c110), (a111, List.length (fPlace), c111), (a112, List.length (fSpan), c112)]) (xss := [fIds, fPlace, fSpan]) ⟨Sl.of_els x110, Sl.of_els x111, Sl.of_els x112, trivial⟩).at⟩))))⟩) ?_
   refine allL.cons (.inr ⟨rfl, rfl, TU.open (d := 113) rfl (by rintro v ⟨vs, ⟨ad, cp, rfl, hE⟩, hl, hx⟩; exact TU.c (enter_call0 (.cons (.tmp rfl) .nil) (Tryz.en107)) (join_any ad cp vs _ _ hE hl hx (by rw [← hl]; decide) (by decide)) (fun v W1 h => ⟨h.2, h.1⟩))⟩) ?_
   refine allL.cons (.inr ⟨rfl, rfl, TU.p (PEv.move (.tmp rfl)) (SlT.cel hT8 hC)⟩) ?_
   refine allL.cons (.inr ⟨rfl, rfl, TU.open (d := 114) rfl (by rintro _ ⟨⟨a114, c114, rfl, x114⟩, p114⟩; exact TU.open (d := 115) rfl (by rintro _ ⟨⟨b115, d115, rfl, y115⟩, q115⟩; exact TU.p (PEv.build (cs := #[.slice a114 (List.length (List.flatten [fIds, fPlace, fSpan])) c114, .slice b115 (List.length (fIds)) d115, .func (.func (restFn 1)) #[] #[], .bool false]) Tryz.underlying99 Tryz.zeroValue99 Tryz.places99 (.cons (.tmp rfl) (.cons (.tmp rfl) (.cons (.func _) (.cons (.const _) .nil)))) rfl) ⟨_, _, rfl, ⟨Sl.of_els x114, p114⟩, ⟨Sl.of_els y115, q115⟩⟩))⟩) ?_
   refine allL.cons (.inl (.inr ⟨rfl, by intro j hj e; simp only [List.mem_cons, List.mem_nil_iff, or_false] at hj; rcases hj with rfl | rfl | rfl | rfl | rfl | rfl | rfl | rfl | rfl | rfl | rfl <;> first | exact absurd e (by decide) | exact ⟨_, _, _, rfl⟩⟩)) ?_
   exact allL.nil
  ·intro W b kv g hU hM hP hg
   have hW := hW.trans ((Up.drew _).trans hU)
   refine LW.p (PEv.move (.tmp rfl)) rfl rfl rfl (LW.p (PEv.assign (.tmp rfl)) rfl rfl rfl (LW.nil (KW.then (CW.ret ?_))))
   refine KW.ret1 rfl rfl ⟨_, rfl, ?_⟩
   refine ⟨_, rfl, ⟨kv, hM, ?_, ?_⟩, hW⟩
   ·intro k v hm
    have := hP.mem_iff.1 hm
    simp only [List.map_cons, List.map_nil, List.mem_cons, List.mem_nil_iff, or_false, Prod.mk.injEq] at this
    rcases this with ⟨rfl, rfl⟩ | ⟨rfl, rfl⟩ | ⟨rfl, rfl⟩ | ⟨rfl, rfl⟩ | ⟨rfl, rfl⟩ | ⟨rfl, rfl⟩ | ⟨rfl, rfl⟩ | ⟨rfl, rfl⟩ | ⟨rfl, rfl⟩ | ⟨rfl, rfl⟩ | ⟨rfl, rfl⟩
    · exact hg 14 _ 36 (by decide) rfl rfl
    · exact hg 23 _ 44 (by decide) rfl rfl
    · exact hg 34 _ 54 (by decide) rfl rfl
    · exact hg 44 _ 63 (by decide) rfl rfl
    · exact hg 50 _ 68 (by decide) rfl rfl
    · exact hg 59 _ 76 (by decide) rfl rfl
    · exact hg 69 _ 85 (by decide) rfl rfl
    · exact hg 78 _ 93 (by decide) rfl rfl
    · exact hg 87 _ 101 (by decide) rfl rfl
    · exact hg 96 _ 109 (by decide) rfl rfl
    · exact hg 104 _ 116 (by decide) rfl rfl
   ·intro k
    rw [(hP.map (·.1)).mem_iff]
    simp
    omega

end Go.Proofs.YthfjagphcekcbaaGreat

-- Eq
namespace Go.Proofs
open Go.Wx Go.RowKit
set_option maxRecDepth 4000 in
theorem Tryz.eqFact (f g : Fact) (w : World) : (Op.equalIn 10000 46 (.agg f.cells) (.agg g.cells)).run Tryz.prog w = .ok (Fact.eqb f g) w := by
  have hf : Tryz.prog.underlying 46 = some (.struct (Tryz.prog.fieldsOf 46)) := by rw [Program.fieldsOf, Tryz.underlying46]
  rw [run_equalIn_agg w 9999 46 _ _ hf Tryz.stoodInHeld46]
  have h : (Op.eqFields 9999 f.cells g.cells (Tryz.prog.fieldsOf 46).toList).run Tryz.prog w = .ok (Fact.eqb f g) w := by
    rw [Program.fieldsOf, Tryz.underlying46]
    dsimp only
    iterate 4 (refine eqStep (by decide) Tryz.isAgg3 rfl rfl (run_equalIn_int w 9998 _ _ _ _ _ Tryz.underlying3) ?_)
    refine eqStep (by decide) Tryz.isAgg4 rfl rfl (run_equalIn_bool' w 9998 _ _ _ Tryz.underlying4) ?_
    iterate 13 (refine eqStep (by decide) Tryz.isAgg3 rfl rfl (run_equalIn_int w 9998 _ _ _ _ _ Tryz.underlying3) ?_)
    rw [show (f.Text.toList == g.Text.toList) = ((f.Text.toList == g.Text.toList) && true) by simp]
    exact eqStep (by decide) Tryz.isAgg9 rfl rfl (run_equalIn_string w 9998 _ _ _ Tryz.underlying9) rfl
  exact h

end Go.Proofs

-- Ba3
namespace Go.Wx

def getF (f : Fact) (o : Nat) : Int := match o with
  | 1 => f.ID
  | 5 => f.Time
  | 6 => f.Until
  | 7 => f.Wafer
  | 8 => f.Other
  | 9 => f.Lot
  | 10 => f.Product
  | 11 => f.Tool
  | 12 => f.Chamber
  | 13 => f.Step
  | 14 => f.Recipe
  | 15 => f.Revision
  | 16 => f.Value
  | 17 => f.Parties
  | _ => 0
def setF (f : Fact) (o : Nat) (n : Int) : Fact := match o with
  | 1 => { f with ID := n }
  | 5 => { f with Time := n }
  | 6 => { f with Until := n }
  | 7 => { f with Wafer := n }
  | 8 => { f with Other := n }
  | 9 => { f with Lot := n }
  | 10 => { f with Product := n }
  | 11 => { f with Tool := n }
  | 12 => { f with Chamber := n }
  | 13 => { f with Step := n }
  | 14 => { f with Recipe := n }
  | 15 => { f with Revision := n }
  | 16 => { f with Value := n }
  | 17 => { f with Parties := n }
  | _ => f
def okOff (o : Nat) : Bool := Nat.beq o 1 || (Nat.ble 5 o && Nat.ble o 17)
theorem okOff_cases {o : Nat} (h : okOff o = true) : o = 1 ∨ o = 5 ∨ o = 6 ∨ o = 7 ∨ o = 8 ∨ o = 9 ∨ o = 10 ∨ o = 11 ∨ o = 12 ∨ o = 13 ∨ o = 14 ∨ o = 15 ∨ o = 16 ∨ o = 17 := by
  simp [okOff] at h; omega
theorem fields_ok (k : Int) : ∀ x ∈ fieldsOf k, okOff x.off = true := by
  intro x hx
  have h : ∀ l ∈ shapeF, ∀ y ∈ l, okOff y.off = true := by decide
  unfold fieldsOf at hx
  rw [List.getD_eq_getElem?_getD] at hx
  cases hl : shapeF[k.toNat]? with
  | none => rw [hl] at hx; simp at hx
  | some l => rw [hl] at hx; exact h l (List.mem_of_getElem? hl) x (by simpa using hx)
theorem getF_cell {f : Fact} {o : Nat} (h : okOff o = true) : nth f.cells.toList o = some (vi (getF f o)) := by
  rcases okOff_cases h with rfl | rfl | rfl | rfl | rfl | rfl | rfl | rfl | rfl | rfl | rfl | rfl | rfl | rfl <;> rfl
theorem setF_cells {f : Fact} {o : Nat} {n : Int} (h : okOff o = true) : f.cells.setIfInBounds o (vi n) = (setF f o n).cells := by
  rcases okOff_cases h with rfl | rfl | rfl | rfl | rfl | rfl | rfl | rfl | rfl | rfl | rfl | rfl | rfl | rfl <;> rfl
def restB (r : Nat) (f : Fact) : Bool := match r with
  | 1 => decide (f.Time ≤ f.Until)
  | 2 => !decide (f.Wafer = f.Other)
  | _ => true
def runF : List Fld → Fact → Option Fact
  | [], g => some g
  | x :: r, g => if getF g x.off < x.lo ∨ x.hi < getF g x.off then none else runF r (setF g x.off 0)
def fact0 (k v d : Int) (g : Bool) : Fact := ⟨k, 0, v, d, g, 0, 0, 0, 0, 0, 0, 0, 0, 0, 0, 0, 0, 0, ByteArray.empty⟩
def preB (f : Fact) : Bool := decide (f.Version < 1) || decide (1000000 < f.Version) || decide (f.Day < 0) || decide (100000 < f.Day) || decide (8192 < (f.Text.size : Int))
def validB (f : Fact) : Bool := decide (1 ≤ f.Kind ∧ f.Kind ≤ 11) && (!(preB f || !restB (restOf f.Kind) f) &&
  match runF (fieldsOf f.Kind) f with
  | none => false
  | some g => Fact.eqb (if textOf f.Kind then { g with Text := ByteArray.empty } else g) (fact0 f.Kind f.Version f.Day f.Gone))

end Go.Wx
namespace Go.Proofs.YthfjagphcekcbaaGreat
open Go.Wx Go.RowKit
theorem isAny_any (f : Fact) (w : World) : Ret Tryz.prog 112 #[.agg f.cells] w fun r w' => r = .bool (restB 0 f) ∧ Up w w' := by
  have hW := Up.refl w
  refine Calls_start (n := 3) (m := 9) Tryz.func112 rfl rfl rfl ?_
  refine CW.seq (CW.region ?_)
  refine LW.r (REv.boxA (.tmp rfl)) rfl rfl rfl rfl ?_
  rintro _ w1 ⟨B1, rfl, NB1⟩
  have eB1 := NB1.at_
  have zB1 := NB1.size
  replace hW := hW.up NB1.up
  have hB1 := NB1.blk
  refine LW.p (PEv.assign (.const _)) rfl rfl rfl (LW.nil (KW.then (CW.seq (CW.region (LW.p (PEv.assign (.const _)) rfl rfl rfl (LW.nil (KW.then (CW.ret ?_))))))))
  refine KW.ret1 rfl rfl ⟨_, rfl, ?_⟩
  exact ⟨rfl, hW⟩

theorem isSpan_any (f : Fact) (w : World) : Ret Tryz.prog 110 #[.agg f.cells] w fun r w' => r = .bool (restB 1 f) ∧ Up w w' := by
  have hW := Up.refl w
  refine Calls_start (n := 8) (m := 9) Tryz.func110 rfl rfl rfl ?_
  refine CW.seq (CW.region ?_)
  refine LW.r (REv.boxA (.tmp rfl)) rfl rfl rfl rfl ?_
  rintro _ w1 ⟨B1, rfl, NB1⟩
  have eB1 := NB1.at_
  have zB1 := NB1.size
  replace hW := hW.up NB1.up
  have hB1 := NB1.blk
  refine LW.p (PEv.assign (.const _)) rfl rfl rfl (LW.nil (KW.then (CW.seq (CW.region ?_))))
  refine LW.p (PEv.fieldAddr (off := 5) Tryz.underlying46 rfl rfl Tryz.sizeOf3 rfl (.tmp rfl)) rfl rfl rfl ?_
  refine LW.p (PEv.load Tryz.isAgg3 (.tmp rfl) (hB1.celln rfl)) rfl rfl rfl ?_
  refine LW.p (PEv.fieldAddr (off := 6) Tryz.underlying46 rfl rfl Tryz.sizeOf3 rfl (.tmp rfl)) rfl rfl rfl ?_
  refine LW.p (PEv.load Tryz.isAgg3 (.tmp rfl) (hB1.celln rfl)) rfl rfl rfl ?_
  refine LW.p (PEv.leq (.tmp rfl) (.tmp rfl)) rfl rfl rfl ?_
  refine LW.p (PEv.assign (.tmp rfl)) rfl rfl rfl (LW.nil (KW.then (CW.ret ?_)))
  refine KW.ret1 rfl rfl ⟨_, rfl, ?_⟩
  exact ⟨rfl, hW⟩

theorem marks_any (f : Fact) (w : World) : Ret Tryz.prog 99 #[.agg f.cells] w fun r w' => r = .bool (restB 2 f) ∧ Up w w' := by
  have hW := Up.refl w
  refine Calls_start (n := 8) (m := 9) Tryz.func99 rfl rfl rfl ?_
  refine CW.seq (CW.region ?_)
  refine LW.r (REv.boxA (.tmp rfl)) rfl rfl rfl rfl ?_
  rintro _ w1 ⟨B1, rfl, NB1⟩
  have eB1 := NB1.at_
  have zB1 := NB1.size
  replace hW := hW.up NB1.up
  have hB1 := NB1.blk
  refine LW.p (PEv.assign (.const _)) rfl rfl rfl (LW.nil (KW.then (CW.seq (CW.region ?_))))
  refine LW.p (PEv.fieldAddr (off := 7) Tryz.underlying46 rfl rfl Tryz.sizeOf3 rfl (.tmp rfl)) rfl rfl rfl ?_
  refine LW.p (PEv.load Tryz.isAgg3 (.tmp rfl) (hB1.celln rfl)) rfl rfl rfl ?_
  refine LW.p (PEv.fieldAddr (off := 8) Tryz.underlying46 rfl rfl Tryz.sizeOf3 rfl (.tmp rfl)) rfl rfl rfl ?_
  refine LW.p (PEv.load Tryz.isAgg3 (.tmp rfl) (hB1.celln rfl)) rfl rfl rfl ?_
  refine LW.p (PEv.neq (.tmp rfl) (.tmp rfl)) rfl rfl rfl ?_
  refine LW.p (PEv.assign (.tmp rfl)) rfl rfl rfl (LW.nil (KW.then (CW.ret ?_)))
  refine KW.ret1 rfl rfl ⟨_, rfl, ?_⟩
  exact ⟨rfl, hW⟩

end Go.Proofs.YthfjagphcekcbaaGreat

-- Ba4
namespace Go.Wx

def baseF (f : Fact) : Fact := fact0 f.Kind f.Version f.Day f.Gone
theorem runF_step {fs : List Fld} {f g : Fact} {k : Nat} {x : Fld} (hg : runF fs f = runF (fs.drop k) g) (hx : fs[k]? = some x) (h : ¬ (getF g x.off < x.lo ∨ x.hi < getF g x.off)) : runF fs f = runF (fs.drop (k + 1)) (setF g x.off 0) := by
  obtain ⟨hk, e⟩ := List.getElem?_eq_some_iff.1 hx
  rw [hg, List.drop_eq_getElem_cons hk, e]
  simp only [runF, if_neg h]
theorem runF_stop {fs : List Fld} {f g : Fact} {k : Nat} {x : Fld} (hg : runF fs f = runF (fs.drop k) g) (hx : fs[k]? = some x) (h : getF g x.off < x.lo ∨ x.hi < getF g x.off) : runF fs f = none := by
  obtain ⟨hk, e⟩ := List.getElem?_eq_some_iff.1 hx
  rw [hg, List.drop_eq_getElem_cons hk, e]
  simp only [runF, if_pos h]
theorem fields_len (k : Int) : (fieldsOf k).length ≤ 16 := by
  have h : ∀ l ∈ shapeF, l.length ≤ 16 := by decide
  unfold fieldsOf
  rw [List.getD_eq_getElem?_getD]
  cases hl : shapeF[k.toNat]? with
  | none => simp
  | some l => exact h l (List.mem_of_getElem? hl)
theorem v_unk {f : Fact} (h : ¬ (1 ≤ f.Kind ∧ f.Kind ≤ 11)) : false = validB f := by simp [validB, decide_eq_false h]
theorem v_pre {f : Fact} (h : preB f = true) : false = validB f := by simp [validB, h]
theorem v_rest {f : Fact} {r : Nat} (hr : r = restOf f.Kind) (h : restB r f = false) : false = validB f := by subst hr; simp [validB, h]
theorem v_stop {f : Fact} (h : runF (fieldsOf f.Kind) f = none) : false = validB f := by simp [validB, h]
theorem okOff_size {f : Fact} {o : Nat} (h : okOff o = true) : o + 1 ≤ f.cells.size := by
  rcases okOff_cases h with rfl | rfl | rfl | rfl | rfl | rfl | rfl | rfl | rfl | rfl | rfl | rfl | rfl | rfl <;> exact Nat.le_of_ble_eq_true rfl
theorem v_end1 {f g : Fact} {r : Nat} {t : Bool} (hk : 1 ≤ f.Kind ∧ f.Kind ≤ 11) (hp : preB f = false) (hr : r = restOf f.Kind) (h : restB r f = true) (hg : runF (fieldsOf f.Kind) f = some g) (ht0 : t = textOf f.Kind) (ht : t = true) : Fact.eqb ({ g with Text := ByteArray.empty } : Fact) (baseF f) = validB f := by
  subst hr ht0; simp only [validB, decide_eq_true hk, hp, h, hg, ht]; rfl
theorem v_end0 {f g : Fact} {r : Nat} {t : Bool} (hk : 1 ≤ f.Kind ∧ f.Kind ≤ 11) (hp : preB f = false) (hr : r = restOf f.Kind) (h : restB r f = true) (hg : runF (fieldsOf f.Kind) f = some g) (ht0 : t = textOf f.Kind) (ht : t = false) : Fact.eqb g (baseF f) = validB f := by
  subst hr ht0; simp only [validB, decide_eq_true hk, hp, h, hg, ht]; rfl
theorem runF_end {fs : List Fld} {f g : Fact} {k : Nat} (hg : runF fs f = runF (fs.drop k) g) (hk : fs.length ≤ k) : runF fs f = some g := by
  rw [hg, List.drop_eq_nil_of_le hk]
  rfl

end Go.Wx
namespace Go.Proofs.YthfjagphcekcbaaGreat
open Go.Wx Go.RowKit
theorem get_any (o b : Nat) (w : World) (ho : okOff o = true) : Ret Tryz.prog (fnOf o) #[.pointer (some ⟨b, 0, none⟩)] w fun r w' => r = .pointer (some ⟨b, o, none⟩) ∧ Up w w' := by
  rcases okOff_cases ho with rfl | rfl | rfl | rfl | rfl | rfl | rfl | rfl | rfl | rfl | rfl | rfl | rfl | rfl
  · exact get_id b w
  · exact get_time b w
  · exact get_until b w
  · exact get_wafer b w
  · exact get_other b w
  · exact get_lot b w
  · exact get_product b w
  · exact get_tool b w
  · exact get_chamber b w
  · exact get_step b w
  · exact get_recipe b w
  · exact get_revision b w
  · exact get_value b w
  · exact get_parties b w
theorem get_en (o : Nat) (ho : okOff o = true) : ∀ (args : Array Go.Value) (w : World), (callFunc (fnOf o) args).run Tryz.prog w = .ok (.enter (fnOf o) args) w := by
  rcases okOff_cases ho with rfl | rfl | rfl | rfl | rfl | rfl | rfl | rfl | rfl | rfl | rfl | rfl | rfl | rfl
  · exact Tryz.en96
  · exact Tryz.en127
  · exact Tryz.en126
  · exact Tryz.en100
  · exact Tryz.en113
  · exact Tryz.en101
  · exact Tryz.en114
  · exact Tryz.en102
  · exact Tryz.en103
  · exact Tryz.en104
  · exact Tryz.en97
  · exact Tryz.en98
  · exact Tryz.en106
  · exact Tryz.en105
theorem rest_any (r : Nat) (f : Fact) (w : World) (hr : r < 3) : Ret Tryz.prog (restFn r) #[.agg f.cells] w fun v w' => v = .bool (restB r f) ∧ Up w w' := by
  match r, hr with
  | 0, _ => exact isAny_any f w
  | 1, _ => exact isSpan_any f w
  | 2, _ => exact marks_any f w
theorem rest_en (r : Nat) (hr : r < 3) : ∀ (args : Array Go.Value) (w : World), (callFunc (restFn r) args).run Tryz.prog w = .ok (.enter (restFn r) args) w := by
  match r, hr with
  | 0, _ => exact Tryz.en112
  | 1, _ => exact Tryz.en110
  | 2, _ => exact Tryz.en99
theorem rest_lt (k : Int) : restOf k < 3 := by
  unfold restOf
  rw [List.getD_eq_getElem?_getD]
  have h : ∀ x ∈ [0, 1, 0, 2, 0, 0, 1, 1, 0, 0, 0, 1], x < 3 := by decide
  cases hl : [0, 1, 0, 2, 0, 0, 1, 1, 0, 0, 0, 1][k.toNat]? with
  | none => simp
  | some x => exact h x (List.mem_of_getElem? hl)
theorem ShV.keepT {w w' : World} {v : Go.Value} {fs ks : List Fld} {r : Nat} {t : Bool} (h : ShV w v fs ks r t) (u : KeepT 99 w w') : ShV w' v fs ks r t := let ⟨v1, v2, e, h1, h2⟩ := h; ⟨v1, v2, e, h1.keepT rfl u, h2.keepT rfl u⟩
theorem ShMap.keepT {w w' : World} {b : Nat} (h : ShMap w b) (u : KeepT 99 w w') : ShMap w' b := let ⟨kv, h1, h2, h3⟩ := h; ⟨kv, h1.keepT u, fun k v m => (h2 k v m).keepT u, h3⟩
def ShM (v : Go.Value) (w : World) : Prop := ∃ b, v = .map (some b) ∧ ShMap w b
theorem ShM.keepT {v : Go.Value} {w w' : World} (h : ShM v w) (u : KeepT 99 w w') : ShM v w' := let ⟨b, e, m⟩ := h; ⟨b, e, m.keepT u⟩
def shOf (f : Fact) (v : Go.Value) (w : World) : Prop := ShV w v (fieldsOf f.Kind) (keyFOf f.Kind) (restOf f.Kind) (textOf f.Kind)
def shTup (f : Fact) (v : Go.Value) (w : World) : Prop := ∃ s, v = .tuple #[s, .bool true] ∧ shOf f s w
def shZero : Go.Value := .agg #[.slice none 0 0, .slice none 0 0, .nilFunc, .bool false]
theorem shOf.agg {f : Fact} {v : Go.Value} {w : World} (h : shOf f v w) : ∃ cs, v = .agg cs ∧ cs.size = 4 ∧ cs.all (·.oneCell') = true := by
  obtain ⟨v1, v2, rfl, ⟨⟨a1, c1, rfl, _⟩, _⟩, ⟨a2, c2, rfl, _⟩, _⟩ := h
  exact ⟨_, rfl, rfl, by simp [Value.oneCell']⟩
set_option maxHeartbeats 4000000 in
theorem Valid_any (f : Fact) (w : World) : Ret Tryz.prog 51 #[.agg f.cells] w fun r w' => r = .bool (validB f) ∧ Up w w' := by
  obtain ⟨w0, rfl⟩ : ∃ w0, w0 = w := ⟨_, rfl⟩
  have hS := Sep.start no w0
  refine Calls_start (n := 93) (m := 9) Tryz.func51 rfl rfl rfl ?_
  refine CW.seq (CW.region ?_)
  refine LW.r (REv.boxA (.tmp rfl)) rfl rfl rfl rfl ?_
  rintro _ w1 ⟨B1, rfl, NB1⟩
  have eB1 := NB1.at_
  have zB1 := NB1.size
  replace hS := hS.addB NB1
  change Wx.Sep _ _ _ [_] at hS
  refine LW.p (PEv.assign (.const _)) rfl rfl rfl (LW.nil (KW.then (CW.seq ?_)))
  cases hq1 : decide (1 ≤ f.Kind ∧ f.Kind ≤ 11) with
  | true =>
   have hkn := of_decide_eq_true hq1
   obtain ⟨r0, hr0⟩ : ∃ r, r = restOf f.Kind := ⟨_, rfl⟩
   have hr3 : r0 < 3 := by rw [hr0]; exact rest_lt _
   obtain ⟨t0, ht0⟩ : ∃ t, t = textOf f.Kind := ⟨_, rfl⟩
   have hB1T := hS.blk 0 rfl
   have hU0 := hS.upd
   refine CW.box 9 7 8 5 3 14 #[.slice none 0 0, .slice none 0 0, .nilFunc, .bool false] [.pred ShM, .eq (.pointer (some ⟨B1, 0, none⟩)), .eq (vi f.Kind), .pred (shTup f), .pred (shTup f), .pred (shOf f), .eq (.bool true), .pred fun v _ => ∃ B, v = .pointer (some ⟨B, 0, none⟩), .eq undef] [15] Tryz.zeroValue99 Tryz.sizeOf99 (by kernel_rfl) rfl (by kernel_rfl) (by kernel_rfl) (by kernel_rfl) (by kernel_rfl) (by kernel_rfl) (by kernel_rfl) (by kernel_rfl) rfl rfl ⟨_, _, _, rfl⟩ _ rfl ⟨_, _, _, rfl⟩ ⟨PhT.pred fun _ _ _ h u => ShM.keepT h u, PhT.eq _ _, PhT.eq _ _, PhT.pred fun _ _ _ h u => let ⟨s, e, h⟩ := h; ⟨s, e, ShV.keepT h u⟩, PhT.pred fun _ _ _ h u => let ⟨s, e, h⟩ := h; ⟨s, e, ShV.keepT h u⟩, PhT.pred fun _ _ _ h u => ShV.keepT h u, PhT.eq _ _, PhT.pred fun _ _ _ h _ => h, PhT.eq _ _, trivial⟩ rfl (fun v W h => shOf.agg h) (fun B W => ⟨B, rfl⟩) ?_ ?_
   ·intro W hK0
    have hK := (Up.drew w1).keepT.trans hK0
    have hB1W := Blk.keepT hB1T (T := 99) rfl hK
    refine allL.cons (.inr ⟨rfl, TU.c (enter_call0 .nil (Tryz.en55)) (shapes_any _) (fun v W1 h => let ⟨b, e, m, u⟩ := h; ⟨u, b, e, m⟩)⟩) ?_
    refine allL.cons (.inr ⟨rfl, TU.p (PEv.fieldAddr (off := 0) Tryz.underlying46 rfl rfl Tryz.sizeOf3 rfl (.tmp rfl)) rfl⟩) ?_
    refine allL.cons (.inr ⟨rfl, TU.p (PEv.load Tryz.isAgg3 (.tmp rfl) (hB1W.celln rfl)) rfl⟩) ?_
    refine allL.cons (.inr ⟨rfl, TU.open (d := 10) rfl (by rintro _ ⟨b, rfl, kv, hI, hV, hK⟩; obtain ⟨⟨k0, sv⟩, hkv, e0⟩ := List.mem_map.1 ((hK f.Kind).2 hkn); cases e0; exact TU.p (PEv.lookupYes Tryz.underlying100 Tryz.underlying3 (.tmp rfl) (.tmp rfl) hI hkv) ⟨_, rfl, hV _ _ hkv⟩)⟩) ?_
    refine allL.cons (.inr ⟨rfl, TU.open (d := 13) rfl (by rintro _ ⟨s, rfl, h⟩; exact TU.p (PEv.move (.tmp rfl)) ⟨s, rfl, h⟩)⟩) ?_
    refine allL.cons (.inr ⟨rfl, TU.open (d := 9) rfl (by rintro _ ⟨s, rfl, h⟩; exact TU.p (PEv.extract (.tmp rfl) rfl) h)⟩) ?_
    refine allL.cons (.inr ⟨rfl, TU.open (d := 9) rfl (by rintro _ ⟨s, rfl, h⟩; exact TU.p (PEv.extract (.tmp rfl) rfl) rfl)⟩) ?_
    refine allL.cons (.inl (.inl rfl)) ?_
    refine allL.cons (.inl (.inr rfl)) ?_
    exact allL.nil
   ·intro wT B3 g hU hBn hB3 hg
    have h15 : g 15 = .bool true := hg 6 _ 15 (by decide) rfl rfl
    have hUT := (Up.drew _).trans hU
    have hB1X := hB1T.up hUT
    replace hB1T := hB1X
    replace hU0 := hU0.trans hUT
    obtain ⟨v1, v2, e14, hs1, hs2⟩ := hg 5 _ 14 (by decide) rfl rfl
    rw [e14] at hB3
    obtain ⟨⟨ad, cp, rfl, hE0⟩, _⟩ := hs1
    obtain ⟨⟨ad2, cp2, rfl, hE2⟩, _⟩ := hs2
    rw [← hr0, ← ht0] at hB3
    replace hB3 : Blk wT B3 #[.slice ad (fieldsOf f.Kind).length cp, .slice ad2 (keyFOf f.Kind).length cp2, .func (.func (restFn r0)) #[] #[], .bool t0] 99 := hB3
    have hB3T := hB3
    change LW _ _ _ _ _ _ _ _ ((3, _) :: (15, .eq (g 15)) :: _) _
    rw [h15]
    replace hS := (Sep.start no wT)
    refine LW.p (PEv.assign (.tmp rfl)) rfl rfl rfl (LW.nil (KW.then (CW.seq (CW.seq ?_))))
    cases hq2 : preB f with
    | true =>
     refine CW.region ?_
     refine LW.p (PEv.tr (PEv.move (.tmp rfl)) (rfl)) rfl rfl rfl ?_
     refine LW.p (PEv.not (.tmp rfl)) rfl rfl rfl ?_
     refine LW.p (PEv.move (.tmp rfl)) rfl rfl rfl ?_
     refine LW.yes rfl rfl rfl rfl rfl rfl ?_
     refine LW.p (PEv.fieldAddr (off := 2) Tryz.underlying46 rfl rfl Tryz.sizeOf3 rfl (.tmp rfl)) rfl rfl rfl ?_
     refine LW.yes rfl rfl rfl rfl rfl rfl ?_
     refine LW.p (PEv.load Tryz.isAgg3 (.tmp rfl) ((hB1T.up hS.upd).celln rfl)) rfl rfl rfl ?_
     refine LW.yes rfl rfl rfl rfl rfl rfl ?_
     refine LW.p (PEv.lss (.tmp rfl) (.const _)) rfl rfl rfl ?_
     refine LW.p (PEv.pick_or (.tmp rfl) (fun hp => (by first | exact .const _ | exact .tmp rfl | exact .cond rfl (by first | assumption | simp_all)))) rfl rfl rfl ?_
     refine LW.p (PEv.move (.tmp rfl)) rfl rfl rfl ?_
     refine LW.g rfl rfl rfl rfl rfl rfl rfl (fun hc => PEv.fieldAddr (off := 2) Tryz.underlying46 rfl rfl Tryz.sizeOf3 rfl (.tmp rfl)) ?_
     refine LW.g rfl rfl rfl rfl rfl rfl rfl (fun hc => PEv.load Tryz.isAgg3 (by first | exact .tmp rfl | exact .cond rfl (by first | assumption | simp_all)) ((hB1T.up hS.upd).celln rfl)) ?_
     refine LW.g rfl rfl rfl rfl rfl rfl rfl (fun hc => PEv.gtr (by first | exact .tmp rfl | exact .cond rfl (by first | assumption | simp_all)) (.const _)) ?_
     refine LW.p (PEv.pick_or (.tmp rfl) (fun hp => (by first | exact .const _ | exact .tmp rfl | exact .cond rfl (by first | assumption | simp_all)))) rfl rfl rfl ?_
     refine LW.p (PEv.move (.tmp rfl)) rfl rfl rfl ?_
     refine LW.g rfl rfl rfl rfl rfl rfl rfl (fun hc => PEv.fieldAddr (off := 3) Tryz.underlying46 rfl rfl Tryz.sizeOf3 rfl (.tmp rfl)) ?_
     refine LW.g rfl rfl rfl rfl rfl rfl rfl (fun hc => PEv.load Tryz.isAgg3 (by first | exact .tmp rfl | exact .cond rfl (by first | assumption | simp_all)) ((hB1T.up hS.upd).celln rfl)) ?_
     refine LW.g rfl rfl rfl rfl rfl rfl rfl (fun hc => PEv.lss (by first | exact .tmp rfl | exact .cond rfl (by first | assumption | simp_all)) (.const _)) ?_
     refine LW.p (PEv.pick_or (.tmp rfl) (fun hp => (by first | exact .const _ | exact .tmp rfl | exact .cond rfl (by first | assumption | simp_all)))) rfl rfl rfl ?_
     refine LW.p (PEv.move (.tmp rfl)) rfl rfl rfl ?_
     refine LW.g rfl rfl rfl rfl rfl rfl rfl (fun hc => PEv.fieldAddr (off := 3) Tryz.underlying46 rfl rfl Tryz.sizeOf3 rfl (.tmp rfl)) ?_
     refine LW.g rfl rfl rfl rfl rfl rfl rfl (fun hc => PEv.load Tryz.isAgg3 (by first | exact .tmp rfl | exact .cond rfl (by first | assumption | simp_all)) ((hB1T.up hS.upd).celln rfl)) ?_
     refine LW.g rfl rfl rfl rfl rfl rfl rfl (fun hc => PEv.gtr (by first | exact .tmp rfl | exact .cond rfl (by first | assumption | simp_all)) (.const _)) ?_
     refine LW.p (PEv.pick_or (.tmp rfl) (fun hp => (by first | exact .const _ | exact .tmp rfl | exact .cond rfl (by first | assumption | simp_all)))) rfl rfl rfl ?_
     refine LW.p (PEv.move (.tmp rfl)) rfl rfl rfl ?_
     refine LW.g rfl rfl rfl rfl rfl rfl rfl (fun hc => PEv.fieldAddr (off := 18) Tryz.underlying46 rfl rfl Tryz.sizeOf9 rfl (.tmp rfl)) ?_
     refine LW.g rfl rfl rfl rfl rfl rfl rfl (fun hc => PEv.load Tryz.isAgg9 (by first | exact .tmp rfl | exact .cond rfl (by first | assumption | simp_all)) ((hB1T.up hS.upd).celln rfl)) ?_
     refine LW.g rfl rfl rfl rfl rfl rfl rfl (fun hc => PEv.lenStr Tryz.underlying9 (by first | exact .tmp rfl | exact .cond rfl (by first | assumption | simp_all))) ?_
     refine LW.g rfl rfl rfl rfl rfl rfl rfl (fun hc => PEv.gtr (by first | exact .tmp rfl | exact .cond rfl (by first | assumption | simp_all)) (.const _)) ?_
     refine LW.p (PEv.pick_or (.tmp rfl) (fun hp => (by first | exact .const _ | exact .tmp rfl | exact .cond rfl (by first | assumption | simp_all)))) rfl rfl rfl ?_
     refine LW.p (PEv.tr (PEv.move (.tmp rfl)) (by simpa [preB] using hq2)) rfl rfl rfl ?_
     refine LW.no rfl rfl rfl rfl rfl rfl rfl rfl ?_
     refine LW.no rfl rfl rfl rfl rfl rfl rfl rfl ?_
     refine LW.no rfl rfl rfl rfl rfl rfl rfl rfl ?_
     refine LW.no rfl rfl rfl rfl rfl rfl rfl rfl ?_
     refine LW.no rfl rfl rfl rfl rfl rfl rfl rfl ?_
     refine LW.p (PEv.pick_or (b := false) (.tmp rfl) (fun hp => absurd (show true = false from hp) (by decide))) rfl rfl rfl ?_
     refine LW.nil (KW.then ?_)
     refine CW.cond_true (.tmp rfl) ?_
     refine CW.seq (CW.region (LW.p (PEv.assign (.const _)) rfl rfl rfl (LW.nil (KW.then (CW.ret (KW.then_ret ?_))))))
     refine KW.ret1 rfl rfl ⟨_, rfl, ?_⟩
     refine ⟨congrArg Go.Value.bool ?_, hU0.trans hS.upd⟩
     first | exact v_unk hkn | exact v_pre hq2 | exact v_rest hr0 (by simpa using h50) | exact v_stop (runF_stop hg hx (by simp at h75; omega)) | exact v_end1 hkn hq2 hr0 (by simpa using h50) (runF_end hg (by simp at h56; omega)) ht0 h80 | exact v_end0 hkn hq2 hr0 (by simpa using h50) (runF_end hg (by simp at h56; omega)) ht0 h80
    | false =>
     obtain ⟨hp1, hp2, hp3, hp4, hp5⟩ : ¬ f.Version < 1 ∧ ¬ 1000000 < f.Version ∧ ¬ f.Day < 0 ∧ ¬ 100000 < f.Day ∧ ¬ 8192 < (f.Text.size : Int) := by simp [preB] at hq2; omega
     refine CW.region ?_
     refine LW.p (PEv.tr (PEv.move (.tmp rfl)) (rfl)) rfl rfl rfl ?_
     refine LW.p (PEv.not (.tmp rfl)) rfl rfl rfl ?_
     refine LW.p (PEv.move (.tmp rfl)) rfl rfl rfl ?_
     refine LW.yes rfl rfl rfl rfl rfl rfl ?_
     refine LW.p (PEv.fieldAddr (off := 2) Tryz.underlying46 rfl rfl Tryz.sizeOf3 rfl (.tmp rfl)) rfl rfl rfl ?_
     refine LW.yes rfl rfl rfl rfl rfl rfl ?_
     refine LW.p (PEv.load Tryz.isAgg3 (.tmp rfl) ((hB1T.up hS.upd).celln rfl)) rfl rfl rfl ?_
     refine LW.yes rfl rfl rfl rfl rfl rfl ?_
     refine LW.p (PEv.fa (PEv.lss (.tmp rfl) (.const _)) (decide_eq_false hp1)) rfl rfl rfl ?_
     refine LW.p (PEv.pick_or (.tmp rfl) (fun hp => (by first | exact .const _ | exact .tmp rfl | exact .cond rfl (by first | assumption | simp_all)))) rfl rfl rfl ?_
     refine LW.p (PEv.move (.tmp rfl)) rfl rfl rfl ?_
     refine LW.yes rfl rfl rfl rfl rfl rfl ?_
     refine LW.p (PEv.fieldAddr (off := 2) Tryz.underlying46 rfl rfl Tryz.sizeOf3 rfl (.tmp rfl)) rfl rfl rfl ?_
     refine LW.yes rfl rfl rfl rfl rfl rfl ?_
     refine LW.p (PEv.load Tryz.isAgg3 (.tmp rfl) ((hB1T.up hS.upd).celln rfl)) rfl rfl rfl ?_
     refine LW.yes rfl rfl rfl rfl rfl rfl ?_
     refine LW.p (PEv.fa (PEv.gtr (.tmp rfl) (.const _)) (decide_eq_false hp2)) rfl rfl rfl ?_
     refine LW.p (PEv.pick_or (.tmp rfl) (fun hp => (by first | exact .const _ | exact .tmp rfl | exact .cond rfl (by first | assumption | simp_all)))) rfl rfl rfl ?_
     refine LW.p (PEv.move (.tmp rfl)) rfl rfl rfl ?_
     refine LW.yes rfl rfl rfl rfl rfl rfl ?_
     refine LW.p (PEv.fieldAddr (off := 3) Tryz.underlying46 rfl rfl Tryz.sizeOf3 rfl (.tmp rfl)) rfl rfl rfl ?_
     refine LW.yes rfl rfl rfl rfl rfl rfl ?_
     refine LW.p (PEv.load Tryz.isAgg3 (.tmp rfl) ((hB1T.up hS.upd).celln rfl)) rfl rfl rfl ?_
     refine LW.yes rfl rfl rfl rfl rfl rfl ?_
     refine LW.p (PEv.fa (PEv.lss (.tmp rfl) (.const _)) (decide_eq_false hp3)) rfl rfl rfl ?_
     refine LW.p (PEv.pick_or (.tmp rfl) (fun hp => (by first | exact .const _ | exact .tmp rfl | exact .cond rfl (by first | assumption | simp_all)))) rfl rfl rfl ?_
     refine LW.p (PEv.move (.tmp rfl)) rfl rfl rfl ?_
     refine LW.yes rfl rfl rfl rfl rfl rfl ?_
     refine LW.p (PEv.fieldAddr (off := 3) Tryz.underlying46 rfl rfl Tryz.sizeOf3 rfl (.tmp rfl)) rfl rfl rfl ?_
     refine LW.yes rfl rfl rfl rfl rfl rfl ?_
     refine LW.p (PEv.load Tryz.isAgg3 (.tmp rfl) ((hB1T.up hS.upd).celln rfl)) rfl rfl rfl ?_
     refine LW.yes rfl rfl rfl rfl rfl rfl ?_
     refine LW.p (PEv.fa (PEv.gtr (.tmp rfl) (.const _)) (decide_eq_false hp4)) rfl rfl rfl ?_
     refine LW.p (PEv.pick_or (.tmp rfl) (fun hp => (by first | exact .const _ | exact .tmp rfl | exact .cond rfl (by first | assumption | simp_all)))) rfl rfl rfl ?_
     refine LW.p (PEv.move (.tmp rfl)) rfl rfl rfl ?_
     refine LW.yes rfl rfl rfl rfl rfl rfl ?_
     refine LW.p (PEv.fieldAddr (off := 18) Tryz.underlying46 rfl rfl Tryz.sizeOf9 rfl (.tmp rfl)) rfl rfl rfl ?_
     refine LW.yes rfl rfl rfl rfl rfl rfl ?_
     refine LW.p (PEv.load Tryz.isAgg9 (.tmp rfl) ((hB1T.up hS.upd).celln rfl)) rfl rfl rfl ?_
     refine LW.yes rfl rfl rfl rfl rfl rfl ?_
     refine LW.p (PEv.lenStr Tryz.underlying9 (.tmp rfl)) rfl rfl rfl ?_
     refine LW.yes rfl rfl rfl rfl rfl rfl ?_
     refine LW.p (PEv.fa (PEv.gtr (.tmp rfl) (.const _)) (decide_eq_false hp5)) rfl rfl rfl ?_
     refine LW.p (PEv.pick_or (.tmp rfl) (fun hp => (by first | exact .const _ | exact .tmp rfl | exact .cond rfl (by first | assumption | simp_all)))) rfl rfl rfl ?_
     refine LW.p (PEv.move (.tmp rfl)) rfl rfl rfl ?_
     refine LW.yes rfl rfl rfl rfl rfl rfl ?_
     refine LW.p (PEv.fieldAddr (off := 2) Tryz.underlying99 rfl rfl Tryz.sizeOf75 rfl (.tmp rfl)) rfl rfl rfl ?_
     refine LW.yes rfl rfl rfl rfl rfl rfl ?_
     refine LW.p (PEv.load Tryz.isAgg75 (.tmp rfl) ((hB3T.up hS.upd).celln rfl)) rfl rfl rfl ?_
     refine LW.yes rfl rfl rfl rfl rfl rfl ?_
     refine LW.p (PEv.loadA Tryz.isAgg46 Tryz.sizeOf46 rfl (.tmp rfl) ((hB1T.up hS.upd).agg)) rfl rfl rfl ?_
     refine LW.yes rfl rfl rfl rfl rfl rfl ?_
     refine LW.c (enter_callv (.tmp rfl) (.cons (.tmp rfl) .nil) (rest_en r0 hr3)) rfl rfl rfl rfl (rest_any r0 f _ hr3) ?_
     rintro _ w2 ⟨rfl, uw2⟩
     have zw2 := uw2.size
     replace hS := hS.up uw2
     refine LW.yes rfl rfl rfl rfl rfl rfl ?_
     refine LW.p (PEv.not (.tmp rfl)) rfl rfl rfl ?_
     refine LW.p (PEv.pick_or (.tmp rfl) (fun hp => (by first | exact .const _ | exact .tmp rfl | exact .cond rfl (by first | assumption | simp_all)))) rfl rfl rfl ?_
     refine LW.nil (KW.then ?_)
     refine CW.cond (.tmp rfl) (fun h50 => ?_) (fun h50 => ?_)
     ·first | replace h50 := of_decide_eq_true h50 | replace h50 := of_decide_eq_false h50 | skip
      refine CW.seq (CW.region (LW.p (PEv.assign (.const _)) rfl rfl rfl (LW.nil (KW.then (CW.ret (KW.then_ret ?_))))))
      refine KW.ret1 rfl rfl ⟨_, rfl, ?_⟩
      refine ⟨congrArg Go.Value.bool ?_, hU0.trans hS.upd⟩
      first | exact v_unk hkn | exact v_pre hq2 | exact v_rest hr0 (by simpa using h50) | exact v_stop (runF_stop hg hx (by simp at h75; omega)) | exact v_end1 hkn hq2 hr0 (by simpa using h50) (runF_end hg (by simp at h56; omega)) ht0 h80 | exact v_end0 hkn hq2 hr0 (by simpa using h50) (runF_end hg (by simp at h56; omega)) ht0 h80
     ·first | replace h50 := of_decide_eq_true h50 | replace h50 := of_decide_eq_false h50 | skip
      refine CW.skip (KW.then (CW.seq (CW.region ?_)))
      refine LW.p (PEv.loadA Tryz.isAgg46 Tryz.sizeOf46 rfl (.tmp rfl) ((hB1T.up hS.upd).agg)) rfl rfl rfl ?_
      refine LW.r (REv.allocA Tryz.zeroValue46) rfl rfl rfl rfl ?_
      rintro _ w3 ⟨B5, rfl, MB5⟩
      refine LW.s (SEv.storeA Tryz.sizeOf46 rfl (.tmp rfl) (.tmp rfl) (by first | rfl | exact Fact.one _ | exact GAct.one _ | exact holdCells_one _ _ | exact hold0_one | (simp [Value.oneCell'])) MB5.blk rfl) rfl rfl rfl ?_
      intro w4 LB5
      have NB5 := MB5.set LB5
      clear LB5 MB5
      have eB5 := NB5.at_
      have zB5 := NB5.size
      replace hS := hS.addB NB5
      change Wx.Sep _ _ _ [_] at hS
      refine LW.nil (KW.then (CW.seq (CW.seq (CW.region ?_))))
      refine LW.p (PEv.fieldAddr (off := 0) Tryz.underlying99 rfl rfl Tryz.sizeOf97 rfl (.tmp rfl)) rfl rfl rfl ?_
      refine LW.p (PEv.load Tryz.isAgg97 (.tmp rfl) ((hB3T.up hS.upd).celln rfl)) rfl rfl rfl ?_
      refine LW.p (PEv.lenS Tryz.underlying97 (.tmp rfl)) rfl rfl rfl ?_
      refine LW.p (PEv.move (.const _)) rfl rfl rfl ?_
      refine LW.nil (KW.then (CW.block ?_))
      refine CW.loopB (σ := Nat × Fact) (fun s w => (s.1 ≤ (fieldsOf f.Kind).length) ∧ (runF (fieldsOf f.Kind) f = runF ((fieldsOf f.Kind).drop s.1) s.2) ∧ (Sep no wT w [aBlk B5 s.2.cells 46])) (fun s => [(55, .eq (vi (s.1 : Int)))]) ([(1, .eq _), (3, .eq _), (5, .eq _), (53, .eq _), (54, .eq _)]) (fun s => (fieldsOf f.Kind).length - s.1) (0, f) ?_ ⟨rfl, rfl, rfl, rfl, rfl, rfl, trivial⟩ ?_
      ·exact ⟨Nat.zero_le _, rfl, hS⟩
      ·rintro ⟨k, g⟩ w5 ⟨hkk, hg, hS⟩
       dsimp only at hkk hg hS
       refine CW.seq (CW.region ?_)
       refine LW.p (PEv.lss (.tmp rfl) (.tmp rfl)) rfl rfl rfl ?_
       refine LW.nil (KW.then (CW.seq ?_))
       refine CW.cond (.tmp rfl) (fun h56 => ?_) (fun h56 => ?_)
       ·first | replace h56 := of_decide_eq_true h56 | replace h56 := of_decide_eq_false h56 | skip
        refine CW.skip (KW.then (CW.seq (CW.block (CW.seq ?_))))
        have hfl := fields_len f.Kind
        have hE := Els.up hE0 hS.upd
        have hkl : k < (fieldsOf f.Kind).length := by simp at h56; omega
        refine CW.region ?_
        obtain ⟨x, hx⟩ := getElem?_of_lt (xs := fieldsOf f.Kind) (i := k) (by omega)
        obtain ⟨Bx, ox, ax, hcx⟩ := hE _ x hx
        refine LW.p (PEv.indexAddr' Tryz.underlying97 Tryz.sizeOf126 (.tmp rfl) (.tmp rfl) (by omega) ax) rfl rfl rfl ?_
        refine LW.p (PEv.loadA Tryz.isAgg126 Tryz.sizeOf126 rfl (.tmp rfl) (hcx)) rfl rfl rfl ?_
        refine LW.r (REv.allocA Tryz.zeroValue126) rfl rfl rfl rfl ?_
        rintro _ w6 ⟨B7, rfl, MB7⟩
        refine LW.s (SEv.storeA Tryz.sizeOf126 rfl (.tmp rfl) (.tmp rfl) (Fld.one _) MB7.blk rfl) rfl rfl rfl ?_
        intro w7 LB7
        have NB7 := MB7.set LB7
        clear LB7 MB7
        have eB7 := NB7.at_
        have zB7 := NB7.size
        replace hcx := hcx.up NB7.up
        replace hS := hS.addB NB7
        change Wx.Sep _ _ _ [_, _] at hS
        refine LW.nil (KW.then (CW.seq ?_))
        have hox := fields_ok _ x (List.mem_of_getElem? hx)
        refine CW.region ?_
        refine LW.p (PEv.fieldAddr (off := 0) Tryz.underlying126 rfl rfl Tryz.sizeOf124 rfl (.tmp rfl)) rfl rfl rfl ?_
        refine LW.p (PEv.load Tryz.isAgg124 (.tmp rfl) ((hS.blk 1 rfl).celln rfl)) rfl rfl rfl ?_
        refine LW.c (enter_callv (.tmp rfl) (.cons (.tmp rfl) .nil) (get_en x.off hox)) rfl rfl rfl rfl (get_any x.off _ _ hox) ?_
        rintro _ w8 ⟨rfl, uw8⟩
        have zw8 := uw8.size
        replace hS := hS.up uw8
        refine LW.p (PEv.assign (.tmp rfl)) rfl rfl rfl (LW.nil (KW.then (CW.seq (CW.seq ?_))))
        refine CW.draws (by kernel_rfl) (by kernel_rfl) rfl rfl ?_
        refine HW.p (PEv.move (.tmp rfl)) rfl rfl ?_
        refine HW.p (PEv.nilCheck (.tmp rfl)) rfl rfl ?_
        refine HW.p (PEv.load Tryz.isAgg3 (.tmp rfl) ((hS.blk 0 rfl).celln (getF_cell hox))) rfl rfl ?_
        refine HW.p (PEv.fieldAddr (off := 1) Tryz.underlying126 rfl rfl Tryz.sizeOf3 rfl (.tmp rfl)) rfl rfl ?_
        refine HW.p (PEv.load Tryz.isAgg3 (.tmp rfl) ((hS.blk 1 rfl).celln (v := vi x.lo) rfl)) rfl rfl ?_
        refine HW.p (PEv.lss (.tmp rfl) (.tmp rfl)) rfl rfl ?_
        refine HW.p (PEv.move (.tmp rfl)) rfl rfl ?_
        refine HW.g rfl rfl rfl rfl rfl rfl (fun hc => PEv.move (.tmp rfl)) ?_
        refine HW.g rfl rfl rfl rfl rfl rfl (fun hc => PEv.nilCheck (by first | exact .tmp rfl | exact .cond rfl (by first | assumption | simp_all))) ?_
        refine HW.g rfl rfl rfl rfl rfl rfl (fun hc => PEv.load Tryz.isAgg3 (by first | exact .tmp rfl | exact .cond rfl (by first | assumption | simp_all)) ((hS.blk 0 rfl).celln (getF_cell hox))) ?_
        refine HW.g rfl rfl rfl rfl rfl rfl (fun hc => PEv.fieldAddr (off := 2) Tryz.underlying126 rfl rfl Tryz.sizeOf3 rfl (.tmp rfl)) ?_
        refine HW.g rfl rfl rfl rfl rfl rfl (fun hc => PEv.load Tryz.isAgg3 (by first | exact .tmp rfl | exact .cond rfl (by first | assumption | simp_all)) ((hS.blk 1 rfl).celln (v := vi x.hi) rfl)) ?_
        refine HW.g rfl rfl rfl rfl rfl rfl (fun hc => PEv.gtr (by first | exact .tmp rfl | exact .cond rfl (by first | assumption | simp_all)) (by first | exact .tmp rfl | exact .cond rfl (by first | assumption | simp_all))) ?_
        refine HW.p (PEv.pick_or (.tmp rfl) (fun hp => (by first | exact .const _ | exact .tmp rfl | exact .cond rfl (by first | assumption | simp_all)))) rfl rfl ?_
        refine HW.nil ?_
        intro w9 uw9
        have zw9 := uw9.size
        replace hS := hS.up uw9
        refine KW.then ?_
        refine CW.cond (.tmp rfl) (fun h75 => ?_) (fun h75 => ?_)
        ·first | replace h75 := of_decide_eq_true h75 | replace h75 := of_decide_eq_false h75 | skip
         refine CW.seq (CW.region (LW.p (PEv.assign (.const _)) rfl rfl rfl (LW.nil (KW.then (CW.ret (KW.then_ret (KW.block_ret (KW.then_ret (KW.then_ret (KW.block_ret (KW.then_ret ?_)))))))))))
         refine KW.ret1 rfl rfl ⟨_, rfl, ?_⟩
         refine ⟨congrArg Go.Value.bool ?_, hU0.trans hS.upd⟩
         first | exact v_unk hkn | exact v_pre hq2 | exact v_rest hr0 (by simpa using h50) | exact v_stop (runF_stop hg hx (by simp at h75; omega)) | exact v_end1 hkn hq2 hr0 (by simpa using h50) (runF_end hg (by simp at h56; omega)) ht0 h80 | exact v_end0 hkn hq2 hr0 (by simpa using h50) (runF_end hg (by simp at h56; omega)) ht0 h80
        ·first | replace h75 := of_decide_eq_true h75 | replace h75 := of_decide_eq_false h75 | skip
         refine CW.skip (KW.then (CW.region (LW.p (PEv.move (.tmp rfl)) rfl rfl rfl ?_)))
         refine LW.p (PEv.nilCheck (.tmp rfl)) rfl rfl rfl ?_
         refine LW.s (SEv.store Tryz.sizeOf3 (.tmp rfl) (.const _) rfl (hS.blk 0 rfl) (okOff_size hox)) rfl rfl rfl ?_
         intro w10 Nw10
         have zw10 := Nw10.size
         replace hS := hS.putB 0 rfl (by rw [setF_cells hox] at Nw10; exact Nw10)
         change Wx.Sep _ _ _ [_, _] at hS
         refine LW.nil (KW.inBlock (KW.then (CW.region ?_)))
         refine LW.p (PEv.inc (.tmp rfl) (by omega)) rfl rfl rfl ?_
         refine LW.p (PEv.move (.tmp rfl)) rfl rfl rfl (LW.nil (KW.round ?_))
         exact ⟨(k + 1, setF g x.off 0), ⟨by omega, runF_step hg hx (by simp at h75; omega), hS.take 1⟩, ⟨rfl, rfl, rfl, rfl, rfl, rfl, trivial⟩, by first | omega | (dsimp only; omega)⟩
       ·first | replace h56 := of_decide_eq_true h56 | replace h56 := of_decide_eq_false h56 | skip
        refine CW.exit (KW.then_exit (KW.then_exit (KW.block_hit (KW.then (CW.seq (CW.seq (CW.region ?_)))))))
        refine LW.p (PEv.fieldAddr (off := 3) Tryz.underlying99 rfl rfl Tryz.sizeOf4 rfl (.tmp rfl)) rfl rfl rfl ?_
        refine LW.p (PEv.load Tryz.isAgg4 (.tmp rfl) ((hB3T.up hS.upd).celln rfl)) rfl rfl rfl ?_
        refine LW.nil (KW.then ?_)
        refine CW.cond (.tmp rfl) (fun h80 => ?_) (fun h80 => ?_)
        ·first | replace h80 := of_decide_eq_true h80 | replace h80 := of_decide_eq_false h80 | skip
         refine CW.region ?_
         refine LW.p (PEv.fieldAddr (off := 18) Tryz.underlying46 rfl rfl Tryz.sizeOf9 rfl (.tmp rfl)) rfl rfl rfl ?_
         refine LW.s (SEv.store Tryz.sizeOf9 (.tmp rfl) (.const _) rfl (hS.blk 0 rfl) (Nat.le_of_ble_eq_true rfl)) rfl rfl rfl ?_
         intro w11 Nw11
         have zw11 := Nw11.size
         replace hS := hS.putB 0 rfl (show Set_ _ w11 _ (({ g with Text := ByteArray.empty } : Fact).cells) _ from Nw11)
         change Wx.Sep _ _ _ [_] at hS
         refine LW.nil (KW.then (CW.seq (CW.region ?_)))
         refine LW.p (PEv.loadA Tryz.isAgg46 Tryz.sizeOf46 rfl (.tmp rfl) ((hS.blk 0 rfl).agg)) rfl rfl rfl ?_
         refine LW.p (PEv.fieldAddr (off := 0) Tryz.underlying46 rfl rfl Tryz.sizeOf3 rfl (.tmp rfl)) rfl rfl rfl ?_
         refine LW.p (PEv.load Tryz.isAgg3 (.tmp rfl) ((hB1T.up hS.upd).celln rfl)) rfl rfl rfl ?_
         refine LW.p (PEv.fieldAddr (off := 2) Tryz.underlying46 rfl rfl Tryz.sizeOf3 rfl (.tmp rfl)) rfl rfl rfl ?_
         refine LW.p (PEv.load Tryz.isAgg3 (.tmp rfl) ((hB1T.up hS.upd).celln rfl)) rfl rfl rfl ?_
         refine LW.p (PEv.fieldAddr (off := 3) Tryz.underlying46 rfl rfl Tryz.sizeOf3 rfl (.tmp rfl)) rfl rfl rfl ?_
         refine LW.p (PEv.load Tryz.isAgg3 (.tmp rfl) ((hB1T.up hS.upd).celln rfl)) rfl rfl rfl ?_
         refine LW.p (PEv.fieldAddr (off := 4) Tryz.underlying46 rfl rfl Tryz.sizeOf4 rfl (.tmp rfl)) rfl rfl rfl ?_
         refine LW.p (PEv.load Tryz.isAgg4 (.tmp rfl) ((hB1T.up hS.upd).celln rfl)) rfl rfl rfl ?_
         refine LW.p (PEv.build (cs := (baseF f).cells) Tryz.underlying46 Tryz.zeroValue46 Tryz.places46 (.cons (.tmp rfl) (.cons (.tmp rfl) (.cons (.tmp rfl) (.cons (.tmp rfl) .nil)))) rfl) rfl rfl rfl ?_
         refine LW.p (PEv.eqlA Tryz.eqGuardType46 (Tryz.eqFact _ _) (.tmp rfl) (.tmp rfl)) rfl rfl rfl ?_
         refine LW.p (PEv.assign (.tmp rfl)) rfl rfl rfl (LW.nil (KW.then (CW.ret ?_)))
         refine KW.ret1 rfl rfl ⟨_, rfl, ?_⟩
         refine ⟨congrArg Go.Value.bool ?_, hU0.trans hS.upd⟩
         first | exact v_unk hkn | exact v_pre hq2 | exact v_rest hr0 (by simpa using h50) | exact v_stop (runF_stop hg hx (by simp at h75; omega)) | exact v_end1 hkn hq2 hr0 (by simpa using h50) (runF_end hg (by simp at h56; omega)) ht0 h80 | exact v_end0 hkn hq2 hr0 (by simpa using h50) (runF_end hg (by simp at h56; omega)) ht0 h80
        ·first | replace h80 := of_decide_eq_true h80 | replace h80 := of_decide_eq_false h80 | skip
         refine CW.skip (KW.then (CW.seq (CW.region ?_)))
         refine LW.p (PEv.loadA Tryz.isAgg46 Tryz.sizeOf46 rfl (.tmp rfl) ((hS.blk 0 rfl).agg)) rfl rfl rfl ?_
         refine LW.p (PEv.fieldAddr (off := 0) Tryz.underlying46 rfl rfl Tryz.sizeOf3 rfl (.tmp rfl)) rfl rfl rfl ?_
         refine LW.p (PEv.load Tryz.isAgg3 (.tmp rfl) ((hB1T.up hS.upd).celln rfl)) rfl rfl rfl ?_
         refine LW.p (PEv.fieldAddr (off := 2) Tryz.underlying46 rfl rfl Tryz.sizeOf3 rfl (.tmp rfl)) rfl rfl rfl ?_
         refine LW.p (PEv.load Tryz.isAgg3 (.tmp rfl) ((hB1T.up hS.upd).celln rfl)) rfl rfl rfl ?_
         refine LW.p (PEv.fieldAddr (off := 3) Tryz.underlying46 rfl rfl Tryz.sizeOf3 rfl (.tmp rfl)) rfl rfl rfl ?_
         refine LW.p (PEv.load Tryz.isAgg3 (.tmp rfl) ((hB1T.up hS.upd).celln rfl)) rfl rfl rfl ?_
         refine LW.p (PEv.fieldAddr (off := 4) Tryz.underlying46 rfl rfl Tryz.sizeOf4 rfl (.tmp rfl)) rfl rfl rfl ?_
         refine LW.p (PEv.load Tryz.isAgg4 (.tmp rfl) ((hB1T.up hS.upd).celln rfl)) rfl rfl rfl ?_
         refine LW.p (PEv.build (cs := (baseF f).cells) Tryz.underlying46 Tryz.zeroValue46 Tryz.places46 (.cons (.tmp rfl) (.cons (.tmp rfl) (.cons (.tmp rfl) (.cons (.tmp rfl) .nil)))) rfl) rfl rfl rfl ?_
         refine LW.p (PEv.eqlA Tryz.eqGuardType46 (Tryz.eqFact _ _) (.tmp rfl) (.tmp rfl)) rfl rfl rfl ?_
         refine LW.p (PEv.assign (.tmp rfl)) rfl rfl rfl (LW.nil (KW.then (CW.ret ?_)))
         refine KW.ret1 rfl rfl ⟨_, rfl, ?_⟩
         refine ⟨congrArg Go.Value.bool ?_, hU0.trans hS.upd⟩
         first | exact v_unk hkn | exact v_pre hq2 | exact v_rest hr0 (by simpa using h50) | exact v_stop (runF_stop hg hx (by simp at h75; omega)) | exact v_end1 hkn hq2 hr0 (by simpa using h50) (runF_end hg (by simp at h56; omega)) ht0 h80 | exact v_end0 hkn hq2 hr0 (by simpa using h50) (runF_end hg (by simp at h56; omega)) ht0 h80
  | false =>
   have hkn := of_decide_eq_false hq1
   have hB1T := hS.blk 0 rfl
   have hU0 := hS.upd
   refine CW.box 9 7 8 5 3 14 #[.slice none 0 0, .slice none 0 0, .nilFunc, .bool false] [.pred ShM, .eq (.pointer (some ⟨B1, 0, none⟩)), .eq (vi f.Kind), .eq (.tuple #[shZero, .bool false]), .eq (.tuple #[shZero, .bool false]), .eq shZero, .eq (.bool false), .pred fun v _ => ∃ B, v = .pointer (some ⟨B, 0, none⟩), .eq undef] [15] Tryz.zeroValue99 Tryz.sizeOf99 (by kernel_rfl) rfl (by kernel_rfl) (by kernel_rfl) (by kernel_rfl) (by kernel_rfl) (by kernel_rfl) (by kernel_rfl) (by kernel_rfl) rfl rfl ⟨_, _, _, rfl⟩ _ rfl ⟨_, _, _, rfl⟩ ⟨PhT.pred fun _ _ _ h u => ShM.keepT h u, PhT.eq _ _, PhT.eq _ _, PhT.eq _ _, PhT.eq _ _, PhT.eq _ _, PhT.eq _ _, PhT.pred fun _ _ _ h _ => h, PhT.eq _ _, trivial⟩ rfl (fun v W h => ⟨_, h, rfl, by simp [Value.oneCell']⟩) (fun B W => ⟨B, rfl⟩) ?_ ?_
   ·intro W hK0
    have hK := (Up.drew w1).keepT.trans hK0
    have hB1W := Blk.keepT hB1T (T := 99) rfl hK
    refine allL.cons (.inr ⟨rfl, TU.c (enter_call0 .nil (Tryz.en55)) (shapes_any _) (fun v W1 h => let ⟨b, e, m, u⟩ := h; ⟨u, b, e, m⟩)⟩) ?_
    refine allL.cons (.inr ⟨rfl, TU.p (PEv.fieldAddr (off := 0) Tryz.underlying46 rfl rfl Tryz.sizeOf3 rfl (.tmp rfl)) rfl⟩) ?_
    refine allL.cons (.inr ⟨rfl, TU.p (PEv.load Tryz.isAgg3 (.tmp rfl) (hB1W.celln rfl)) rfl⟩) ?_
    refine allL.cons (.inr ⟨rfl, TU.open (d := 10) rfl (by rintro _ ⟨b, rfl, kv, hI, hV, hK⟩; exact TU.p (PEv.lookupNo Tryz.underlying100 Tryz.underlying3 Tryz.zeroValue99 (.tmp rfl) (.tmp rfl) hI (fun h => hkn ((hK f.Kind).1 h))) rfl)⟩) ?_
    refine allL.cons (.inr ⟨rfl, TU.p (PEv.move (.tmp rfl)) rfl⟩) ?_
    refine allL.cons (.inr ⟨rfl, TU.p (PEv.extract (.tmp rfl) rfl) rfl⟩) ?_
    refine allL.cons (.inr ⟨rfl, TU.p (PEv.extract (.tmp rfl) rfl) rfl⟩) ?_
    refine allL.cons (.inl (.inl rfl)) ?_
    refine allL.cons (.inl (.inr rfl)) ?_
    exact allL.nil
   ·intro wT B3 g hU hBn hB3 hg
    have h15 : g 15 = .bool false := hg 6 _ 15 (by decide) rfl rfl
    have hUT := (Up.drew _).trans hU
    have hB1X := hB1T.up hUT
    replace hB1T := hB1X
    replace hU0 := hU0.trans hUT
    have e14 : g 14 = shZero := hg 5 _ 14 (by decide) rfl rfl
    rw [e14] at hB3
    replace hB3 : Blk wT B3 #[.slice none 0 0, .slice none 0 0, .nilFunc, .bool false] 99 := hB3
    have hB3T := hB3
    change LW _ _ _ _ _ _ _ _ ((3, _) :: (15, .eq (g 15)) :: _) _
    rw [h15]
    replace hS := (Sep.start no wT)
    refine LW.p (PEv.assign (.tmp rfl)) rfl rfl rfl (LW.nil (KW.then (CW.seq (CW.seq (CW.region ?_)))))
    refine LW.p (PEv.fa (PEv.move (.tmp rfl)) (rfl)) rfl rfl rfl ?_
    refine LW.p (PEv.not (.tmp rfl)) rfl rfl rfl ?_
    refine LW.p (PEv.move (.tmp rfl)) rfl rfl rfl ?_
    refine LW.no rfl rfl rfl rfl rfl rfl rfl rfl ?_
    refine LW.no rfl rfl rfl rfl rfl rfl rfl rfl ?_
    refine LW.no rfl rfl rfl rfl rfl rfl rfl rfl ?_
    refine LW.p (PEv.pick_or (b := false) (.tmp rfl) (fun hp => absurd (show true = false from hp) (by decide))) rfl rfl rfl ?_
    refine LW.p (PEv.move (.tmp rfl)) rfl rfl rfl ?_
    refine LW.no rfl rfl rfl rfl rfl rfl rfl rfl ?_
    refine LW.no rfl rfl rfl rfl rfl rfl rfl rfl ?_
    refine LW.no rfl rfl rfl rfl rfl rfl rfl rfl ?_
    refine LW.p (PEv.pick_or (b := false) (.tmp rfl) (fun hp => absurd (show true = false from hp) (by decide))) rfl rfl rfl ?_
    refine LW.p (PEv.move (.tmp rfl)) rfl rfl rfl ?_
    refine LW.no rfl rfl rfl rfl rfl rfl rfl rfl ?_
    refine LW.no rfl rfl rfl rfl rfl rfl rfl rfl ?_
    refine LW.no rfl rfl rfl rfl rfl rfl rfl rfl ?_
    refine LW.p (PEv.pick_or (b := false) (.tmp rfl) (fun hp => absurd (show true = false from hp) (by decide))) rfl rfl rfl ?_
    refine LW.p (PEv.move (.tmp rfl)) rfl rfl rfl ?_
    refine LW.no rfl rfl rfl rfl rfl rfl rfl rfl ?_
    refine LW.no rfl rfl rfl rfl rfl rfl rfl rfl ?_
    refine LW.no rfl rfl rfl rfl rfl rfl rfl rfl ?_
    refine LW.p (PEv.pick_or (b := false) (.tmp rfl) (fun hp => absurd (show true = false from hp) (by decide))) rfl rfl rfl ?_
    refine LW.p (PEv.move (.tmp rfl)) rfl rfl rfl ?_
    refine LW.no rfl rfl rfl rfl rfl rfl rfl rfl ?_
    refine LW.no rfl rfl rfl rfl rfl rfl rfl rfl ?_
    refine LW.no rfl rfl rfl rfl rfl rfl rfl rfl ?_
    refine LW.no rfl rfl rfl rfl rfl rfl rfl rfl ?_
    refine LW.p (PEv.pick_or (b := false) (.tmp rfl) (fun hp => absurd (show true = false from hp) (by decide))) rfl rfl rfl ?_
    refine LW.p (PEv.move (.tmp rfl)) rfl rfl rfl ?_
    refine LW.no rfl rfl rfl rfl rfl rfl rfl rfl ?_
    refine LW.no rfl rfl rfl rfl rfl rfl rfl rfl ?_
    refine LW.no rfl rfl rfl rfl rfl rfl rfl rfl ?_
    refine LW.no rfl rfl rfl rfl rfl rfl rfl rfl ?_
    refine LW.no rfl rfl rfl rfl rfl rfl rfl rfl ?_
    refine LW.p (PEv.pick_or (b := false) (.tmp rfl) (fun hp => absurd (show true = false from hp) (by decide))) rfl rfl rfl ?_
    refine LW.nil (KW.then ?_)
    refine CW.cond_true (.tmp rfl) ?_
    refine CW.seq (CW.region (LW.p (PEv.assign (.const _)) rfl rfl rfl (LW.nil (KW.then (CW.ret (KW.then_ret ?_))))))
    refine KW.ret1 rfl rfl ⟨_, rfl, ?_⟩
    refine ⟨congrArg Go.Value.bool ?_, hU0.trans hS.upd⟩
    first | exact v_unk hkn | exact v_pre hq2 | exact v_rest hr0 (by simpa using h50) | exact v_stop (runF_stop hg hx (by simp at h75; omega)) | exact v_end1 hkn hq2 hr0 (by simpa using h50) (runF_end hg (by simp at h56; omega)) ht0 h80 | exact v_end0 hkn hq2 hr0 (by simpa using h50) (runF_end hg (by simp at h56; omega)) ht0 h80

end Go.Proofs.YthfjagphcekcbaaGreat
