import Derived.Test.YtdkfjllchhoojaaHo8
import Derived.Test.YtdkfjllchhoojaaEq
namespace Go.Wx
def base0 : Base := ⟨[], [], [], [], [], [], [], [], [], [], []⟩
def bc0 : Array Go.Value := #[.slice none 0 0, .slice none 0 0, .slice none 0 0, .slice none 0 0, .slice none 0 0, .slice none 0 0, .slice none 0 0, .slice none 0 0, .slice none 0 0, .slice none 0 0, .slice none 0 0]
theorem baseC0 (w : World) : BaseC w bc0 base0 := ⟨_, _, _, _, _, _, _, _, _, _, _, rfl, Sl.nil _ _ _, Sl.nil _ _ _, Sl.nil _ _ _, Sl.nil _ _ _, Sl.nil _ _ _, Sl.nil _ _ _, Sl.nil _ _ _, Sl.nil _ _ _, Sl.nil _ _ _, Sl.nil _ _ _, Sl.nil _ _ _⟩
def hc1 (f : Fact) : Fact := { f with Kind := 7, Lot := 0 }
def freeF (f : Fact) : Fact := { Fact.zero with Kind := 7, Time := f.Time, Until := f.Until }
def gOf (p : Int) (h : Fact) : Fact := if p = 0 then { h with Wafer := 0 } else if p = 1 then { h with Tool := 0 } else if p = 2 then { h with Chamber := 0 } else if p = 3 then { h with Step := 0 } else if p = 4 then { h with Recipe := 0 } else { h with Revision := 0 }
def ownOf (p : Int) (h : Fact) (a : GAct) : Fact := if p = 0 then { h with Wafer := a.Wafer } else if p = 1 then { h with Tool := a.Tool + 1 } else if p = 2 then { h with Chamber := a.Chamber + 1 } else if p = 3 then { h with Step := a.Step + 1 } else if p = 4 then { h with Recipe := a.Recipe } else { h with Revision := a.Revision }
def inI (x : Int) : Prop := -9223372036854775808 ≤ x ∧ x ≤ 9223372036854775807
structure FIn (f : Fact) : Prop where
  Wafer : inI f.Wafer
  Lot : inI f.Lot
  Tool : inI f.Tool
  Chamber : inI f.Chamber
  Step : inI f.Step
  Recipe : inI f.Recipe
  Revision : inI f.Revision
structure AIn (a : GAct) : Prop where
  Wafer : inI a.Wafer
  Recipe : inI a.Recipe
  Revision : inI a.Revision
structure OkA (a : GAct) : Prop where
  t0 : 0 ≤ a.Tool
  t1 : a.Tool < 60
  c0 : 0 ≤ a.Chamber
  c1 : a.Chamber < 4
  s0 : 0 ≤ a.Step
  s1 : a.Step < 40
  w : 1 ≤ a.Wafer
  r : 1 ≤ a.Recipe
  v : 1 ≤ a.Revision
def mb (w i : Int) : Bool := decide (w = 0) || decide (w = i)
theorem met0 {w : Int} (i : Int) (h : inI w) : Cond.met ⟨w, 0, i⟩ = mb w i := by
  have e : IntKind.i64.wrap (w - 0) = w := by rw [Int.sub_zero]; exact wrap_i64_in h.1 h.2
  unfold Cond.met mb
  dsimp only
  rw [e]
  by_cases h1 : w = 0
  · simp [h1]
  · by_cases h2 : w = i
    · subst h2; simp
    · simp [h1, h2]
theorem met1 {w i : Int} (h : inI w) (h0 : 0 ≤ i) : Cond.met ⟨w, 1, i⟩ = mb w (i + 1) := by
  unfold Cond.met mb
  dsimp only
  by_cases h1 : w = 0
  · simp [h1]
  · by_cases h3 : i ≤ w
    · have e : IntKind.i64.wrap (w - 1) = w - 1 := wrap_i64_in (by have := h.1; omega) (by have := h.2; omega)
      rw [e]
      by_cases h2 : w = i + 1
      · subst h2; simp; omega
      · have : ¬ w - 1 = i := by omega
        simp [h1, h2, this]
    · have : ¬ w = i + 1 := by omega
      simp [h1, h3, this]
theorem names0 {f : Fact} {a : GAct} (hf : FIn f) (ha : OkA a) : namesB f base0.Lots a = (decide (f.Kind = 7) && decide (f.Time ≤ a.Time) && decide (a.Time ≤ f.Until) && mb f.Wafer a.Wafer && mb f.Lot 0 && mb f.Tool (a.Tool + 1) && mb f.Chamber (a.Chamber + 1) && mb f.Step (a.Step + 1) && mb f.Recipe a.Recipe && mb f.Revision a.Revision) := by
  unfold namesB aboutB spansB
  have e : (lotOf base0.Lots a.Wafer a.Time).1 = 0 := rfl
  simp only [List.all_cons, List.all_nil, Bool.and_true, e]
  rw [met0 _ hf.Wafer, met0 _ hf.Lot, met1 hf.Tool ha.t0, met1 hf.Chamber ha.c0, met1 hf.Step ha.s0, met0 _ hf.Recipe, met0 _ hf.Revision]
  simp only [Bool.and_assoc]
theorem free_names (f : Fact) {a : GAct} (ha : OkA a) : namesB (freeF f) base0.Lots a = (decide (f.Time ≤ a.Time) && decide (a.Time ≤ f.Until)) := by
  have z : inI 0 := ⟨by decide, by decide⟩
  rw [names0 (f := freeF f) ⟨z, z, z, z, z, z, z⟩ ha]
  simp [freeF, Fact.zero, mb]
  rfl
def verdict (H W O eo eg : Bool) : Bool := (((true && (W || !H)) && (O == W)) && (!eo || (H == W))) && ((eo || eg) || !H)
theorem vd0 : ∀ p b0 b1 : Bool, verdict (p && (b0 || b1)) (p) (p) b1 b0 = true := by decide
theorem vd1 : ∀ p b0 b1 q1 : Bool, verdict (p && (b0 || b1) && q1) (p && q1) (p && q1) b1 b0 = true := by decide
theorem vd2 : ∀ p b0 b1 q1 q2 : Bool, verdict (p && (b0 || b1) && q1 && q2) (p && q1 && q2) (p && q1 && q2) b1 b0 = true := by decide
theorem vd3 : ∀ p b0 b1 q1 q2 q3 : Bool, verdict (p && (b0 || b1) && q1 && q2 && q3) (p && q1 && q2 && q3) (p && q1 && q2 && q3) b1 b0 = true := by decide
theorem vd4 : ∀ p b0 b1 q1 q2 q3 q4 : Bool, verdict (p && (b0 || b1) && q1 && q2 && q3 && q4) (p && q1 && q2 && q3 && q4) (p && q1 && q2 && q3 && q4) b1 b0 = true := by decide
theorem vd6 : ∀ p b0 b1 q1 q2 q3 q4 q5 q6 : Bool, verdict (p && (b0 || b1) && q1 && q2 && q3 && q4 && q5 && q6) (p && q1 && q2 && q3 && q4 && q5 && q6) (p && q1 && q2 && q3 && q4 && q5 && q6) b1 b0 = true := by decide
theorem mb_zero (i : Int) : mb 0 i = true := by simp [mb]
theorem mb_self (i : Int) : mb i i = true := by simp [mb]
theorem beq_dec (x y : Int) : (x == y) = decide (x = y) := rfl
theorem in_small {x : Int} (h0 : 0 ≤ x) (h1 : x ≤ 100) : inI x := ⟨by omega, by omega⟩
theorem cond_law (p : Int) {h : Fact} {a : GAct} (hf : FIn h) (ha : OkA a) (hi : AIn a) :
    verdict (namesB h base0.Lots a) (namesB (gOf p h) base0.Lots a) (namesB (ownOf p h a) base0.Lots a) (Fact.eqb h (ownOf p h a)) (Fact.eqb h (gOf p h)) = true := by
  have z0 : inI 0 := in_small (by omega) (by omega)
  have zt : inI (a.Tool + 1) := in_small (by have := ha.t0; omega) (by have := ha.t1; omega)
  have zc : inI (a.Chamber + 1) := in_small (by have := ha.c0; omega) (by have := ha.c1; omega)
  have zs : inI (a.Step + 1) := in_small (by have := ha.s0; omega) (by have := ha.s1; omega)
  have hn := names0 hf ha
  unfold gOf ownOf
  by_cases h0 : p = 0
  · rw [if_pos h0, if_pos h0, hn, names0 (f := { h with Wafer := 0 }) ⟨z0, hf.Lot, hf.Tool, hf.Chamber, hf.Step, hf.Recipe, hf.Revision⟩ ha, names0 (f := { h with Wafer := a.Wafer }) ⟨hi.Wafer, hf.Lot, hf.Tool, hf.Chamber, hf.Step, hf.Recipe, hf.Revision⟩ ha]
    simp only [Fact.eqb, beq_self_eq_true, Bool.and_true, Bool.true_and, mb_zero, mb_self, beq_dec]
    exact vd6 _ _ _ _ _ _ _ _ _
  rw [if_neg h0, if_neg h0]
  by_cases h1 : p = 1
  · rw [if_pos h1, if_pos h1, hn, names0 (f := { h with Tool := 0 }) ⟨hf.Wafer, hf.Lot, z0, hf.Chamber, hf.Step, hf.Recipe, hf.Revision⟩ ha, names0 (f := { h with Tool := a.Tool + 1 }) ⟨hf.Wafer, hf.Lot, zt, hf.Chamber, hf.Step, hf.Recipe, hf.Revision⟩ ha]
    simp only [Fact.eqb, beq_self_eq_true, Bool.and_true, Bool.true_and, mb_zero, mb_self, beq_dec]
    exact vd4 _ _ _ _ _ _ _
  rw [if_neg h1, if_neg h1]
  by_cases h2 : p = 2
  · rw [if_pos h2, if_pos h2, hn, names0 (f := { h with Chamber := 0 }) ⟨hf.Wafer, hf.Lot, hf.Tool, z0, hf.Step, hf.Recipe, hf.Revision⟩ ha, names0 (f := { h with Chamber := a.Chamber + 1 }) ⟨hf.Wafer, hf.Lot, hf.Tool, zc, hf.Step, hf.Recipe, hf.Revision⟩ ha]
    simp only [Fact.eqb, beq_self_eq_true, Bool.and_true, Bool.true_and, mb_zero, mb_self, beq_dec]
    exact vd3 _ _ _ _ _ _
  rw [if_neg h2, if_neg h2]
  by_cases h3 : p = 3
  · rw [if_pos h3, if_pos h3, hn, names0 (f := { h with Step := 0 }) ⟨hf.Wafer, hf.Lot, hf.Tool, hf.Chamber, z0, hf.Recipe, hf.Revision⟩ ha, names0 (f := { h with Step := a.Step + 1 }) ⟨hf.Wafer, hf.Lot, hf.Tool, hf.Chamber, zs, hf.Recipe, hf.Revision⟩ ha]
    simp only [Fact.eqb, beq_self_eq_true, Bool.and_true, Bool.true_and, mb_zero, mb_self, beq_dec]
    exact vd2 _ _ _ _ _
  rw [if_neg h3, if_neg h3]
  by_cases h4 : p = 4
  · rw [if_pos h4, if_pos h4, hn, names0 (f := { h with Recipe := 0 }) ⟨hf.Wafer, hf.Lot, hf.Tool, hf.Chamber, hf.Step, z0, hf.Revision⟩ ha, names0 (f := { h with Recipe := a.Recipe }) ⟨hf.Wafer, hf.Lot, hf.Tool, hf.Chamber, hf.Step, hi.Recipe, hf.Revision⟩ ha]
    simp only [Fact.eqb, beq_self_eq_true, Bool.and_true, Bool.true_and, mb_zero, mb_self, beq_dec]
    exact vd1 _ _ _ _
  · rw [if_neg h4, if_neg h4, hn, names0 (f := { h with Revision := 0 }) ⟨hf.Wafer, hf.Lot, hf.Tool, hf.Chamber, hf.Step, hf.Recipe, z0⟩ ha, names0 (f := { h with Revision := a.Revision }) ⟨hf.Wafer, hf.Lot, hf.Tool, hf.Chamber, hf.Step, hf.Recipe, hi.Revision⟩ ha]
    simp only [Fact.eqb, beq_self_eq_true, Bool.and_true, Bool.true_and, mb_zero, mb_self, beq_dec]
    exact vd0 _ _ _
theorem okA_of {a : GAct} (h : (decide (a.Tool < 0) || decide (60 ≤ a.Tool) || decide (a.Chamber < 0) || decide (4 ≤ a.Chamber) || decide (a.Step < 0) || decide (40 ≤ a.Step) || decide (a.Wafer < 1) || decide (a.Recipe < 1) || decide (a.Revision < 1)) = false) : OkA a := by
  simp only [Bool.or_eq_false_iff, decide_eq_false_iff_not] at h
  obtain ⟨⟨⟨⟨⟨⟨⟨⟨q1, q2⟩, q3⟩, q4⟩, q5⟩, q6⟩, q7⟩, q8⟩, q9⟩ := h
  constructor <;> omega

end Go.Wx
namespace Go.Proofs.Ytdkfjllchhoojaa
open Go.Wx Go.RowKit
set_option maxHeartbeats 4000000 in
theorem HoldConditions_any (f : Fact) (a : GAct) (which : Int) (w : World) (hf1 : FIn (hc1 f)) (hi : AIn a) : Ret Try.prog 3 #[.agg f.cells, .agg a.cells, vi which] w fun r w' => r = .bool true ∧ Up w w' := by
  have hW := Up.refl w
  obtain ⟨w0, rfl⟩ : ∃ w0, w0 = w := ⟨_, rfl⟩
  refine Calls_start (n := 177) (m := 9) Try.func3 rfl rfl rfl ?_
  refine CW.seq ?_
  -- region 0
  refine CW.region ?_
  refine LW.r (REv.boxA (.tmp rfl)) rfl rfl rfl rfl ?_
  rintro _ w1 ⟨B3, rfl, NB3⟩
  have eB3 := NB3.at_
  have zB3 := NB3.size
  replace hW := hW.up NB3.up
  have hB3 := NB3.blk
  refine LW.r (REv.boxA (.tmp rfl)) rfl rfl rfl rfl ?_
  rintro _ w2 ⟨B4, rfl, NB4⟩
  have eB4 := NB4.at_
  have zB4 := NB4.size
  replace hW := hW.up NB4.up
  replace hB3 := hB3.up NB4.up
  have hB4 := NB4.blk
  refine LW.p (PEv.assign (.const _)) rfl rfl rfl ?_
  refine LW.nil ?_
  refine KW.then ?_
  refine CW.seq ?_
  -- region 1
  refine CW.region ?_
  refine LW.c (enter_call0 .nil (Try.en5)) rfl rfl rfl rfl (sane_any _) ?_
  rintro _ w3 ⟨rfl, uw3⟩
  have zw3 := uw3.size
  replace hW := hW.up uw3
  replace hB3 := hB3.up uw3
  replace hB4 := hB4.up uw3
  refine LW.p (PEv.assign (.tmp rfl)) rfl rfl rfl ?_
  refine LW.nil ?_
  refine KW.then ?_
  refine CW.seq ?_
  -- region 2
  refine CW.region ?_
  refine LW.p (PEv.fieldAddr (off := 0) Try.underlying23 rfl rfl Try.sizeOf3 rfl (.tmp rfl)) rfl rfl rfl ?_
  refine LW.s (SEv.store Try.sizeOf3 (.tmp rfl) (.const _) rfl hB3 (Nat.le_of_ble_eq_true rfl)) rfl rfl rfl ?_
  intro w4 Nw4
  have zw4 := Nw4.size
  replace hW := hW.sto Nw4.sto (by omega)
  replace hB4 := hB4.sto Nw4.sto (by omega)
  replace hB3 := Nw4.blk
  replace hB3 : Blk w4 B3 ({ f with Kind := 7 } : Fact).cells _ := hB3
  refine LW.nil ?_
  refine KW.then ?_
  refine CW.seq ?_
  -- region 3
  refine CW.region ?_
  refine LW.p (PEv.fieldAddr (off := 9) Try.underlying23 rfl rfl Try.sizeOf3 rfl (.tmp rfl)) rfl rfl rfl ?_
  refine LW.s (SEv.store Try.sizeOf3 (.tmp rfl) (.const _) rfl hB3 (Nat.le_of_ble_eq_true rfl)) rfl rfl rfl ?_
  intro w5 Nw5
  have zw5 := Nw5.size
  replace hW := hW.sto Nw5.sto (by omega)
  replace hB4 := hB4.sto Nw5.sto (by omega)
  replace hB3 := Nw5.blk
  replace hB3 : Blk w5 B3 (hc1 f).cells _ := hB3
  refine LW.nil ?_
  refine KW.then ?_
  refine CW.seq ?_
  -- region 4
  refine CW.region ?_
  refine LW.p (PEv.build (cs := bc0) Try.underlying29 Try.zeroValue29 Try.places29 .nil rfl) rfl rfl rfl ?_
  refine LW.r (REv.allocA Try.zeroValue29) rfl rfl rfl rfl ?_
  rintro _ w6 ⟨B8, rfl, MB8⟩
  refine LW.s (SEv.storeA Try.sizeOf29 rfl (.tmp rfl) (.tmp rfl) (by simp [bc0, Value.oneCell']) MB8.blk rfl) rfl rfl rfl ?_
  intro w7 LB8
  have NB8 := MB8.set LB8
  clear LB8 MB8
  have eB8 := NB8.at_
  have zB8 := NB8.size
  replace hW := hW.up NB8.up
  replace hB3 := hB3.up NB8.up
  replace hB4 := hB4.up NB8.up
  have hB8 := NB8.blk
  refine LW.nil ?_
  refine KW.then ?_
  refine CW.seq ?_
  refine CW.seq ?_
  -- region 5
  refine CW.region ?_
  refine LW.p (PEv.fieldAddr (off := 2) Try.underlying25 rfl rfl Try.sizeOf3 rfl (.tmp rfl)) rfl rfl rfl ?_
  refine LW.p (PEv.load Try.isAgg3 (.tmp rfl) (hB4.celln rfl)) rfl rfl rfl ?_
  refine LW.p (PEv.lss (.tmp rfl) (.const _)) rfl rfl rfl ?_
  refine LW.p (PEv.move (.tmp rfl)) rfl rfl rfl ?_
  refine LW.g rfl rfl rfl rfl rfl rfl rfl (fun hc => PEv.fieldAddr (off := 2) Try.underlying25 rfl rfl Try.sizeOf3 rfl (.tmp rfl)) ?_
  refine LW.g rfl rfl rfl rfl rfl rfl rfl (fun hc => PEv.load Try.isAgg3 (by first | exact .tmp rfl | exact .cond rfl (by first | assumption | simp_all)) (hB4.celln rfl)) ?_
  refine LW.g rfl rfl rfl rfl rfl rfl rfl (fun hc => PEv.geq (by first | exact .tmp rfl | exact .cond rfl (by first | assumption | simp_all)) (.const _)) ?_
  refine LW.p (PEv.pick_or (.tmp rfl) (fun hp => (by first | exact .const _ | exact .tmp rfl | exact .cond rfl (by first | assumption | simp_all)))) rfl rfl rfl ?_
  refine LW.p (PEv.move (.tmp rfl)) rfl rfl rfl ?_
  refine LW.g rfl rfl rfl rfl rfl rfl rfl (fun hc => PEv.fieldAddr (off := 3) Try.underlying25 rfl rfl Try.sizeOf3 rfl (.tmp rfl)) ?_
  refine LW.g rfl rfl rfl rfl rfl rfl rfl (fun hc => PEv.load Try.isAgg3 (by first | exact .tmp rfl | exact .cond rfl (by first | assumption | simp_all)) (hB4.celln rfl)) ?_
  refine LW.g rfl rfl rfl rfl rfl rfl rfl (fun hc => PEv.lss (by first | exact .tmp rfl | exact .cond rfl (by first | assumption | simp_all)) (.const _)) ?_
  refine LW.p (PEv.pick_or (.tmp rfl) (fun hp => (by first | exact .const _ | exact .tmp rfl | exact .cond rfl (by first | assumption | simp_all)))) rfl rfl rfl ?_
  refine LW.p (PEv.move (.tmp rfl)) rfl rfl rfl ?_
  refine LW.g rfl rfl rfl rfl rfl rfl rfl (fun hc => PEv.fieldAddr (off := 3) Try.underlying25 rfl rfl Try.sizeOf3 rfl (.tmp rfl)) ?_
  refine LW.g rfl rfl rfl rfl rfl rfl rfl (fun hc => PEv.load Try.isAgg3 (by first | exact .tmp rfl | exact .cond rfl (by first | assumption | simp_all)) (hB4.celln rfl)) ?_
  refine LW.g rfl rfl rfl rfl rfl rfl rfl (fun hc => PEv.geq (by first | exact .tmp rfl | exact .cond rfl (by first | assumption | simp_all)) (.const _)) ?_
  refine LW.p (PEv.pick_or (.tmp rfl) (fun hp => (by first | exact .const _ | exact .tmp rfl | exact .cond rfl (by first | assumption | simp_all)))) rfl rfl rfl ?_
  refine LW.p (PEv.move (.tmp rfl)) rfl rfl rfl ?_
  refine LW.g rfl rfl rfl rfl rfl rfl rfl (fun hc => PEv.fieldAddr (off := 1) Try.underlying25 rfl rfl Try.sizeOf3 rfl (.tmp rfl)) ?_
  refine LW.g rfl rfl rfl rfl rfl rfl rfl (fun hc => PEv.load Try.isAgg3 (by first | exact .tmp rfl | exact .cond rfl (by first | assumption | simp_all)) (hB4.celln rfl)) ?_
  refine LW.g rfl rfl rfl rfl rfl rfl rfl (fun hc => PEv.lss (by first | exact .tmp rfl | exact .cond rfl (by first | assumption | simp_all)) (.const _)) ?_
  refine LW.p (PEv.pick_or (.tmp rfl) (fun hp => (by first | exact .const _ | exact .tmp rfl | exact .cond rfl (by first | assumption | simp_all)))) rfl rfl rfl ?_
  refine LW.p (PEv.move (.tmp rfl)) rfl rfl rfl ?_
  refine LW.g rfl rfl rfl rfl rfl rfl rfl (fun hc => PEv.fieldAddr (off := 1) Try.underlying25 rfl rfl Try.sizeOf3 rfl (.tmp rfl)) ?_
  refine LW.g rfl rfl rfl rfl rfl rfl rfl (fun hc => PEv.load Try.isAgg3 (by first | exact .tmp rfl | exact .cond rfl (by first | assumption | simp_all)) (hB4.celln rfl)) ?_
  refine LW.g rfl rfl rfl rfl rfl rfl rfl (fun hc => PEv.geq (by first | exact .tmp rfl | exact .cond rfl (by first | assumption | simp_all)) (.const _)) ?_
  refine LW.p (PEv.pick_or (.tmp rfl) (fun hp => (by first | exact .const _ | exact .tmp rfl | exact .cond rfl (by first | assumption | simp_all)))) rfl rfl rfl ?_
  refine LW.p (PEv.move (.tmp rfl)) rfl rfl rfl ?_
  refine LW.g rfl rfl rfl rfl rfl rfl rfl (fun hc => PEv.fieldAddr (off := 0) Try.underlying25 rfl rfl Try.sizeOf3 rfl (.tmp rfl)) ?_
  refine LW.g rfl rfl rfl rfl rfl rfl rfl (fun hc => PEv.load Try.isAgg3 (by first | exact .tmp rfl | exact .cond rfl (by first | assumption | simp_all)) (hB4.celln rfl)) ?_
  refine LW.g rfl rfl rfl rfl rfl rfl rfl (fun hc => PEv.lss (by first | exact .tmp rfl | exact .cond rfl (by first | assumption | simp_all)) (.const _)) ?_
  refine LW.p (PEv.pick_or (.tmp rfl) (fun hp => (by first | exact .const _ | exact .tmp rfl | exact .cond rfl (by first | assumption | simp_all)))) rfl rfl rfl ?_
  refine LW.p (PEv.move (.tmp rfl)) rfl rfl rfl ?_
  refine LW.g rfl rfl rfl rfl rfl rfl rfl (fun hc => PEv.fieldAddr (off := 4) Try.underlying25 rfl rfl Try.sizeOf3 rfl (.tmp rfl)) ?_
  refine LW.g rfl rfl rfl rfl rfl rfl rfl (fun hc => PEv.load Try.isAgg3 (by first | exact .tmp rfl | exact .cond rfl (by first | assumption | simp_all)) (hB4.celln rfl)) ?_
  refine LW.g rfl rfl rfl rfl rfl rfl rfl (fun hc => PEv.lss (by first | exact .tmp rfl | exact .cond rfl (by first | assumption | simp_all)) (.const _)) ?_
  refine LW.p (PEv.pick_or (.tmp rfl) (fun hp => (by first | exact .const _ | exact .tmp rfl | exact .cond rfl (by first | assumption | simp_all)))) rfl rfl rfl ?_
  refine LW.p (PEv.move (.tmp rfl)) rfl rfl rfl ?_
  refine LW.g rfl rfl rfl rfl rfl rfl rfl (fun hc => PEv.fieldAddr (off := 5) Try.underlying25 rfl rfl Try.sizeOf3 rfl (.tmp rfl)) ?_
  refine LW.g rfl rfl rfl rfl rfl rfl rfl (fun hc => PEv.load Try.isAgg3 (by first | exact .tmp rfl | exact .cond rfl (by first | assumption | simp_all)) (hB4.celln rfl)) ?_
  refine LW.g rfl rfl rfl rfl rfl rfl rfl (fun hc => PEv.lss (by first | exact .tmp rfl | exact .cond rfl (by first | assumption | simp_all)) (.const _)) ?_
  refine LW.p (PEv.pick_or (.tmp rfl) (fun hp => (by first | exact .const _ | exact .tmp rfl | exact .cond rfl (by first | assumption | simp_all)))) rfl rfl rfl ?_
  refine LW.nil ?_
  refine KW.then ?_
  refine CW.cond (.tmp rfl) (fun h59 => ?_) (fun h59 => ?_)
  · first | replace h59 := of_decide_eq_true h59 | replace h59 := of_decide_eq_false h59 | skip
    skip
    refine CW.seq ?_
    -- region 6
    refine CW.region ?_
    refine LW.p (PEv.move (.tmp rfl)) rfl rfl rfl ?_
    refine LW.p (PEv.assign (.tmp rfl)) rfl rfl rfl ?_
    refine LW.nil ?_
    refine KW.then ?_
    refine CW.ret ?_
    refine KW.then_ret ?_
    refine KW.ret1 rfl rfl ⟨_, rfl, ?_⟩
    first | exact ⟨congrArg Go.Value.bool (cond_law _ hf1 hk hi), hW⟩ | exact ⟨rfl, hW⟩
  · first | replace h59 := of_decide_eq_true h59 | replace h59 := of_decide_eq_false h59 | skip
    have hk : OkA a := okA_of h59
    have kt0 := hk.t0
    have kt1 := hk.t1
    have kc0 := hk.c0
    have kc1 := hk.c1
    have ks0 := hk.s0
    have ks1 := hk.s1
    refine CW.skip ?_
    refine KW.then ?_
    refine CW.seq ?_
    -- region 7
    refine CW.region ?_
    refine LW.p (PEv.fieldAddr (off := 5) Try.underlying23 rfl rfl Try.sizeOf3 rfl (.tmp rfl)) rfl rfl rfl ?_
    refine LW.p (PEv.load Try.isAgg3 (.tmp rfl) (hB3.celln rfl)) rfl rfl rfl ?_
    refine LW.p (PEv.fieldAddr (off := 6) Try.underlying23 rfl rfl Try.sizeOf3 rfl (.tmp rfl)) rfl rfl rfl ?_
    refine LW.p (PEv.load Try.isAgg3 (.tmp rfl) (hB3.celln rfl)) rfl rfl rfl ?_
    refine LW.p (PEv.build (cs := Fact.cells (freeF f)) Try.underlying23 Try.zeroValue23 Try.places23 (.cons (.const _) (.cons (.tmp rfl) (.cons (.tmp rfl) .nil))) rfl) rfl rfl rfl ?_
    refine LW.r (REv.allocA Try.zeroValue23) rfl rfl rfl rfl ?_
    rintro _ w8 ⟨B9, rfl, MB9⟩
    refine LW.s (SEv.storeA Try.sizeOf23 rfl (.tmp rfl) (.tmp rfl) (by first | rfl | exact Fact.one _ | exact GAct.one _ | exact holdCells_one _ _ | exact hold0_one | (simp [Value.oneCell'])) MB9.blk rfl) rfl rfl rfl ?_
    intro w9 LB9
    have NB9 := MB9.set LB9
    clear LB9 MB9
    have eB9 := NB9.at_
    have zB9 := NB9.size
    replace hW := hW.up NB9.up
    replace hB3 := hB3.up NB9.up
    replace hB4 := hB4.up NB9.up
    replace hB8 := hB8.up NB9.up
    have hB9 := NB9.blk
    refine LW.nil ?_
    refine KW.then ?_
    refine CW.seq ?_
    refine CW.seq ?_
    -- region 8 draws its order
    refine CW.draws (by kernel_rfl) (by kernel_rfl) rfl rfl ?_
    refine HW.p (PEv.loadA Try.isAgg29 Try.sizeOf29 rfl (.tmp rfl) (hB8.agg)) rfl rfl ?_
    refine HW.p (PEv.loadA Try.isAgg23 Try.sizeOf23 rfl (.tmp rfl) (hB9.agg)) rfl rfl ?_
    refine HW.p (PEv.loadA Try.isAgg25 Try.sizeOf25 rfl (.tmp rfl) (hB4.agg)) rfl rfl ?_
    refine HW.c (fun a w _ ha => enter_call0 (.cons (.tmp rfl) (.cons (.tmp rfl) (.cons (.tmp rfl) .nil))) (Try.en6) a ha) rfl rfl (fun w hu => Names_any _ _ _ _ _ (baseC0 _) (by decide)) ?_
    refine HW.p (PEv.fieldAddr (off := 5) Try.underlying23 rfl rfl Try.sizeOf3 rfl (.tmp rfl)) rfl rfl ?_
    refine HW.p (PEv.load Try.isAgg3 (.tmp rfl) (hB3.celln rfl)) rfl rfl ?_
    refine HW.p (PEv.fieldAddr (off := 6) Try.underlying25 rfl rfl Try.sizeOf3 rfl (.tmp rfl)) rfl rfl ?_
    refine HW.p (PEv.load Try.isAgg3 (.tmp rfl) (hB4.celln rfl)) rfl rfl ?_
    refine HW.p (PEv.leq (.tmp rfl) (.tmp rfl)) rfl rfl ?_
    refine HW.p (PEv.move (.tmp rfl)) rfl rfl ?_
    refine HW.g rfl rfl rfl rfl rfl rfl (fun hc => PEv.fieldAddr (off := 6) Try.underlying25 rfl rfl Try.sizeOf3 rfl (.tmp rfl)) ?_
    refine HW.g rfl rfl rfl rfl rfl rfl (fun hc => PEv.load Try.isAgg3 (by first | exact .tmp rfl | exact .cond rfl (by first | assumption | simp_all)) (hB4.celln rfl)) ?_
    refine HW.g rfl rfl rfl rfl rfl rfl (fun hc => PEv.fieldAddr (off := 6) Try.underlying23 rfl rfl Try.sizeOf3 rfl (.tmp rfl)) ?_
    refine HW.g rfl rfl rfl rfl rfl rfl (fun hc => PEv.load Try.isAgg3 (by first | exact .tmp rfl | exact .cond rfl (by first | assumption | simp_all)) (hB3.celln rfl)) ?_
    refine HW.g rfl rfl rfl rfl rfl rfl (fun hc => PEv.leq (by first | exact .tmp rfl | exact .cond rfl (by first | assumption | simp_all)) (by first | exact .tmp rfl | exact .cond rfl (by first | assumption | simp_all))) ?_
    refine HW.p (PEv.pick_and (.tmp rfl) (fun hp => (by first | exact .const _ | exact .tmp rfl | exact .cond rfl (by first | assumption | simp_all)))) rfl rfl ?_
    refine HW.p (PEv.neqB Try.underlying4 (.tmp rfl) (.tmp rfl)) rfl rfl ?_
    refine HW.nil ?_
    intro w10 uw10
    have zw10 := uw10.size
    replace hW := hW.up uw10
    replace hB3 := hB3.up uw10
    replace hB4 := hB4.up uw10
    replace hB8 := hB8.up uw10
    replace hB9 := hB9.up uw10
    refine KW.then ?_
    refine CW.cond (.tmp rfl) (fun h82 => ?_) (fun h82 => ?_)
    · first | replace h82 := of_decide_eq_true h82 | replace h82 := of_decide_eq_false h82 | skip
      exact absurd h82 (by rw [free_names _ hk]; simp [hc1] <;> rfl)
    · first | replace h82 := of_decide_eq_true h82 | replace h82 := of_decide_eq_false h82 | skip
      refine CW.skip ?_
      refine KW.then ?_
      refine CW.seq ?_
      -- region 10
      refine CW.region ?_
      refine LW.p (PEv.loadA Try.isAgg23 Try.sizeOf23 rfl (.tmp rfl) (hB3.agg)) rfl rfl rfl ?_
      refine LW.r (REv.allocA Try.zeroValue23) rfl rfl rfl rfl ?_
      rintro _ w11 ⟨B10, rfl, MB10⟩
      refine LW.s (SEv.storeA Try.sizeOf23 rfl (.tmp rfl) (.tmp rfl) (by first | rfl | exact Fact.one _ | exact GAct.one _ | exact holdCells_one _ _ | exact hold0_one | (simp [Value.oneCell'])) MB10.blk rfl) rfl rfl rfl ?_
      intro w12 LB10
      have NB10 := MB10.set LB10
      clear LB10 MB10
      have eB10 := NB10.at_
      have zB10 := NB10.size
      replace hW := hW.up NB10.up
      replace hB3 := hB3.up NB10.up
      replace hB4 := hB4.up NB10.up
      replace hB8 := hB8.up NB10.up
      replace hB9 := hB9.up NB10.up
      have hB10 := NB10.blk
      refine LW.nil ?_
      refine KW.then ?_
      refine CW.seq ?_
      -- region 11
      refine CW.region ?_
      refine LW.p (PEv.loadA Try.isAgg23 Try.sizeOf23 rfl (.tmp rfl) (hB3.agg)) rfl rfl rfl ?_
      refine LW.r (REv.allocA Try.zeroValue23) rfl rfl rfl rfl ?_
      rintro _ w13 ⟨B11, rfl, MB11⟩
      refine LW.s (SEv.storeA Try.sizeOf23 rfl (.tmp rfl) (.tmp rfl) (by first | rfl | exact Fact.one _ | exact GAct.one _ | exact holdCells_one _ _ | exact hold0_one | (simp [Value.oneCell'])) MB11.blk rfl) rfl rfl rfl ?_
      intro w14 LB11
      have NB11 := MB11.set LB11
      clear LB11 MB11
      have eB11 := NB11.at_
      have zB11 := NB11.size
      replace hW := hW.up NB11.up
      replace hB3 := hB3.up NB11.up
      replace hB4 := hB4.up NB11.up
      replace hB8 := hB8.up NB11.up
      replace hB9 := hB9.up NB11.up
      replace hB10 := hB10.up NB11.up
      have hB11 := NB11.blk
      refine LW.nil ?_
      refine KW.then ?_
      refine CW.seq_mid (fun a1 W => Ag 177 [] ([(8, .eq (.pointer (some ⟨B8, 0, none⟩))), (3, .eq (.pointer (some ⟨B3, 0, none⟩))), (4, .eq (.pointer (some ⟨B4, 0, none⟩))), (10, .eq (.pointer (some ⟨B10, 0, none⟩))), (11, .eq (.pointer (some ⟨B11, 0, none⟩))), (7, .eq (.bool true))]) a1 W ∧ Blk W B3 (hc1 f).cells 23 ∧ Blk W B4 a.cells 25 ∧ Blk W B8 bc0 29 ∧ Blk W B10 (gOf (pickI which 6) (hc1 f)).cells 23 ∧ Blk W B11 (ownOf (pickI which 6) (hc1 f) a).cells 23 ∧ Up w0 W) ?_ ?_
      · skip
        refine CW.seq ?_
        -- region 12
        refine CW.region ?_
        refine LW.p (PEv.move (.tmp rfl)) rfl rfl rfl ?_
        refine LW.c (enter_call0 (.cons (.tmp rfl) (.cons (.const _) .nil)) (Try.en7)) rfl rfl rfl rfl (pick_any _ _ _ (by decide)) ?_
        rintro _ w15 ⟨rfl, uw15⟩
        have zw15 := uw15.size
        replace hW := hW.up uw15
        replace hB3 := hB3.up uw15
        replace hB4 := hB4.up uw15
        replace hB8 := hB8.up uw15
        replace hB9 := hB9.up uw15
        replace hB10 := hB10.up uw15
        replace hB11 := hB11.up uw15
        refine LW.nil ?_
        refine KW.then ?_
        refine CW.block ?_
        refine CW.seq ?_
        -- region 15
        refine CW.region ?_
        refine LW.p (PEv.eql (.tmp rfl) (.const _)) rfl rfl rfl ?_
        refine LW.p (PEv.assign (.tmp rfl)) rfl rfl rfl ?_
        refine LW.nil ?_
        refine KW.then ?_
        refine CW.cond (.tmp rfl) (fun h91 => ?_) (fun h91 => ?_)
        · first | replace h91 := of_decide_eq_true h91 | replace h91 := of_decide_eq_false h91 | skip
          have hg : gOf (pickI which 6) (hc1 f) = { hc1 f with Wafer := 0 } := if_pos h91
          have ho : ownOf (pickI which 6) (hc1 f) a = { hc1 f with Wafer := a.Wafer } := if_pos h91
          refine CW.seq ?_
          -- region 16
          refine CW.region ?_
          refine LW.p (PEv.fieldAddr (off := 7) Try.underlying23 rfl rfl Try.sizeOf3 rfl (.tmp rfl)) rfl rfl rfl ?_
          refine LW.s (SEv.store Try.sizeOf3 (.tmp rfl) (.const _) rfl hB10 (Nat.le_of_ble_eq_true rfl)) rfl rfl rfl ?_
          intro w16 Nw16
          have zw16 := Nw16.size
          replace hW := hW.sto Nw16.sto (by omega)
          replace hB3 := hB3.sto Nw16.sto (by omega)
          replace hB4 := hB4.sto Nw16.sto (by omega)
          replace hB8 := hB8.sto Nw16.sto (by omega)
          replace hB9 := hB9.sto Nw16.sto (by omega)
          replace hB11 := hB11.sto Nw16.sto (by omega)
          replace hB10 := Nw16.blk
          replace hB10 : Blk w16 B10 ({ hc1 f with Wafer := 0 } : Fact).cells _ := hB10
          refine LW.nil ?_
          refine KW.then ?_
          -- region 17
          refine CW.region ?_
          refine LW.p (PEv.fieldAddr (off := 0) Try.underlying25 rfl rfl Try.sizeOf3 rfl (.tmp rfl)) rfl rfl rfl ?_
          refine LW.p (PEv.load Try.isAgg3 (.tmp rfl) (hB4.celln rfl)) rfl rfl rfl ?_
          refine LW.p (PEv.fieldAddr (off := 7) Try.underlying23 rfl rfl Try.sizeOf3 rfl (.tmp rfl)) rfl rfl rfl ?_
          refine LW.s (SEv.store Try.sizeOf3 (.tmp rfl) (.tmp rfl) rfl hB11 (Nat.le_of_ble_eq_true rfl)) rfl rfl rfl ?_
          intro w17 Nw17
          have zw17 := Nw17.size
          replace hW := hW.sto Nw17.sto (by omega)
          replace hB3 := hB3.sto Nw17.sto (by omega)
          replace hB4 := hB4.sto Nw17.sto (by omega)
          replace hB8 := hB8.sto Nw17.sto (by omega)
          replace hB9 := hB9.sto Nw17.sto (by omega)
          replace hB10 := hB10.sto Nw17.sto (by omega)
          replace hB11 := Nw17.blk
          replace hB11 : Blk w17 B11 ({ hc1 f with Wafer := a.Wafer } : Fact).cells _ := hB11
          refine LW.nil ?_
          refine KW.inBlock ?_
          exact fun a ha => ⟨ha.sub ⟨rfl, rfl, rfl, rfl, rfl, rfl, trivial⟩, hB3, hB4, hB8, by rw [hg]; exact hB10, by rw [ho]; exact hB11, hW⟩
        · first | replace h91 := of_decide_eq_true h91 | replace h91 := of_decide_eq_false h91 | skip
          refine CW.seq ?_
          -- region 18
          refine CW.region ?_
          refine LW.p (PEv.eql (.tmp rfl) (.const _)) rfl rfl rfl ?_
          refine LW.p (PEv.assign (.tmp rfl)) rfl rfl rfl ?_
          refine LW.nil ?_
          refine KW.then ?_
          refine CW.cond (.tmp rfl) (fun h97 => ?_) (fun h97 => ?_)
          · first | replace h97 := of_decide_eq_true h97 | replace h97 := of_decide_eq_false h97 | skip
            have hg : gOf (pickI which 6) (hc1 f) = { hc1 f with Tool := 0 } := (if_neg h91).trans (if_pos h97)
            have ho : ownOf (pickI which 6) (hc1 f) a = { hc1 f with Tool := a.Tool + 1 } := (if_neg h91).trans (if_pos h97)
            refine CW.seq ?_
            -- region 19
            refine CW.region ?_
            refine LW.p (PEv.fieldAddr (off := 11) Try.underlying23 rfl rfl Try.sizeOf3 rfl (.tmp rfl)) rfl rfl rfl ?_
            refine LW.s (SEv.store Try.sizeOf3 (.tmp rfl) (.const _) rfl hB10 (Nat.le_of_ble_eq_true rfl)) rfl rfl rfl ?_
            intro w18 Nw18
            have zw18 := Nw18.size
            replace hW := hW.sto Nw18.sto (by omega)
            replace hB3 := hB3.sto Nw18.sto (by omega)
            replace hB4 := hB4.sto Nw18.sto (by omega)
            replace hB8 := hB8.sto Nw18.sto (by omega)
            replace hB9 := hB9.sto Nw18.sto (by omega)
            replace hB11 := hB11.sto Nw18.sto (by omega)
            replace hB10 := Nw18.blk
            replace hB10 : Blk w18 B10 ({ hc1 f with Tool := 0 } : Fact).cells _ := hB10
            refine LW.nil ?_
            refine KW.then ?_
            -- region 20
            refine CW.region ?_
            refine LW.p (PEv.fieldAddr (off := 2) Try.underlying25 rfl rfl Try.sizeOf3 rfl (.tmp rfl)) rfl rfl rfl ?_
            refine LW.p (PEv.load Try.isAgg3 (.tmp rfl) (hB4.celln rfl)) rfl rfl rfl ?_
            refine LW.p (PEv.add (.tmp rfl) (.const _) (by omega) (by omega)) rfl rfl rfl ?_
            refine LW.p (PEv.fieldAddr (off := 11) Try.underlying23 rfl rfl Try.sizeOf3 rfl (.tmp rfl)) rfl rfl rfl ?_
            refine LW.s (SEv.store Try.sizeOf3 (.tmp rfl) (.tmp rfl) rfl hB11 (Nat.le_of_ble_eq_true rfl)) rfl rfl rfl ?_
            intro w19 Nw19
            have zw19 := Nw19.size
            replace hW := hW.sto Nw19.sto (by omega)
            replace hB3 := hB3.sto Nw19.sto (by omega)
            replace hB4 := hB4.sto Nw19.sto (by omega)
            replace hB8 := hB8.sto Nw19.sto (by omega)
            replace hB9 := hB9.sto Nw19.sto (by omega)
            replace hB10 := hB10.sto Nw19.sto (by omega)
            replace hB11 := Nw19.blk
            replace hB11 : Blk w19 B11 ({ hc1 f with Tool := a.Tool + 1 } : Fact).cells _ := hB11
            refine LW.nil ?_
            refine KW.inBlock ?_
            exact fun a ha => ⟨ha.sub ⟨rfl, rfl, rfl, rfl, rfl, rfl, trivial⟩, hB3, hB4, hB8, by rw [hg]; exact hB10, by rw [ho]; exact hB11, hW⟩
          · first | replace h97 := of_decide_eq_true h97 | replace h97 := of_decide_eq_false h97 | skip
            refine CW.seq ?_
            -- region 21
            refine CW.region ?_
            refine LW.p (PEv.eql (.tmp rfl) (.const _)) rfl rfl rfl ?_
            refine LW.p (PEv.assign (.tmp rfl)) rfl rfl rfl ?_
            refine LW.nil ?_
            refine KW.then ?_
            refine CW.cond (.tmp rfl) (fun h104 => ?_) (fun h104 => ?_)
            · first | replace h104 := of_decide_eq_true h104 | replace h104 := of_decide_eq_false h104 | skip
              have hg : gOf (pickI which 6) (hc1 f) = { hc1 f with Chamber := 0 } := (if_neg h91).trans ((if_neg h97).trans (if_pos h104))
              have ho : ownOf (pickI which 6) (hc1 f) a = { hc1 f with Chamber := a.Chamber + 1 } := (if_neg h91).trans ((if_neg h97).trans (if_pos h104))
              refine CW.seq ?_
              -- region 22
              refine CW.region ?_
              refine LW.p (PEv.fieldAddr (off := 12) Try.underlying23 rfl rfl Try.sizeOf3 rfl (.tmp rfl)) rfl rfl rfl ?_
              refine LW.s (SEv.store Try.sizeOf3 (.tmp rfl) (.const _) rfl hB10 (Nat.le_of_ble_eq_true rfl)) rfl rfl rfl ?_
              intro w20 Nw20
              have zw20 := Nw20.size
              replace hW := hW.sto Nw20.sto (by omega)
              replace hB3 := hB3.sto Nw20.sto (by omega)
              replace hB4 := hB4.sto Nw20.sto (by omega)
              replace hB8 := hB8.sto Nw20.sto (by omega)
              replace hB9 := hB9.sto Nw20.sto (by omega)
              replace hB11 := hB11.sto Nw20.sto (by omega)
              replace hB10 := Nw20.blk
              replace hB10 : Blk w20 B10 ({ hc1 f with Chamber := 0 } : Fact).cells _ := hB10
              refine LW.nil ?_
              refine KW.then ?_
              -- region 23
              refine CW.region ?_
              refine LW.p (PEv.fieldAddr (off := 3) Try.underlying25 rfl rfl Try.sizeOf3 rfl (.tmp rfl)) rfl rfl rfl ?_
              refine LW.p (PEv.load Try.isAgg3 (.tmp rfl) (hB4.celln rfl)) rfl rfl rfl ?_
              refine LW.p (PEv.add (.tmp rfl) (.const _) (by omega) (by omega)) rfl rfl rfl ?_
              refine LW.p (PEv.fieldAddr (off := 12) Try.underlying23 rfl rfl Try.sizeOf3 rfl (.tmp rfl)) rfl rfl rfl ?_
              refine LW.s (SEv.store Try.sizeOf3 (.tmp rfl) (.tmp rfl) rfl hB11 (Nat.le_of_ble_eq_true rfl)) rfl rfl rfl ?_
              intro w21 Nw21
              have zw21 := Nw21.size
              replace hW := hW.sto Nw21.sto (by omega)
              replace hB3 := hB3.sto Nw21.sto (by omega)
              replace hB4 := hB4.sto Nw21.sto (by omega)
              replace hB8 := hB8.sto Nw21.sto (by omega)
              replace hB9 := hB9.sto Nw21.sto (by omega)
              replace hB10 := hB10.sto Nw21.sto (by omega)
              replace hB11 := Nw21.blk
              replace hB11 : Blk w21 B11 ({ hc1 f with Chamber := a.Chamber + 1 } : Fact).cells _ := hB11
              refine LW.nil ?_
              refine KW.inBlock ?_
              exact fun a ha => ⟨ha.sub ⟨rfl, rfl, rfl, rfl, rfl, rfl, trivial⟩, hB3, hB4, hB8, by rw [hg]; exact hB10, by rw [ho]; exact hB11, hW⟩
            · first | replace h104 := of_decide_eq_true h104 | replace h104 := of_decide_eq_false h104 | skip
              refine CW.seq ?_
              -- region 24
              refine CW.region ?_
              refine LW.p (PEv.eql (.tmp rfl) (.const _)) rfl rfl rfl ?_
              refine LW.p (PEv.assign (.tmp rfl)) rfl rfl rfl ?_
              refine LW.nil ?_
              refine KW.then ?_
              refine CW.cond (.tmp rfl) (fun h111 => ?_) (fun h111 => ?_)
              · first | replace h111 := of_decide_eq_true h111 | replace h111 := of_decide_eq_false h111 | skip
                have hg : gOf (pickI which 6) (hc1 f) = { hc1 f with Step := 0 } := (if_neg h91).trans ((if_neg h97).trans ((if_neg h104).trans (if_pos h111)))
                have ho : ownOf (pickI which 6) (hc1 f) a = { hc1 f with Step := a.Step + 1 } := (if_neg h91).trans ((if_neg h97).trans ((if_neg h104).trans (if_pos h111)))
                refine CW.seq ?_
                -- region 25
                refine CW.region ?_
                refine LW.p (PEv.fieldAddr (off := 13) Try.underlying23 rfl rfl Try.sizeOf3 rfl (.tmp rfl)) rfl rfl rfl ?_
                refine LW.s (SEv.store Try.sizeOf3 (.tmp rfl) (.const _) rfl hB10 (Nat.le_of_ble_eq_true rfl)) rfl rfl rfl ?_
                intro w22 Nw22
                have zw22 := Nw22.size
                replace hW := hW.sto Nw22.sto (by omega)
                replace hB3 := hB3.sto Nw22.sto (by omega)
                replace hB4 := hB4.sto Nw22.sto (by omega)
                replace hB8 := hB8.sto Nw22.sto (by omega)
                replace hB9 := hB9.sto Nw22.sto (by omega)
                replace hB11 := hB11.sto Nw22.sto (by omega)
                replace hB10 := Nw22.blk
                replace hB10 : Blk w22 B10 ({ hc1 f with Step := 0 } : Fact).cells _ := hB10
                refine LW.nil ?_
                refine KW.then ?_
                -- region 26
                refine CW.region ?_
                refine LW.p (PEv.fieldAddr (off := 1) Try.underlying25 rfl rfl Try.sizeOf3 rfl (.tmp rfl)) rfl rfl rfl ?_
                refine LW.p (PEv.load Try.isAgg3 (.tmp rfl) (hB4.celln rfl)) rfl rfl rfl ?_
                refine LW.p (PEv.add (.tmp rfl) (.const _) (by omega) (by omega)) rfl rfl rfl ?_
                refine LW.p (PEv.fieldAddr (off := 13) Try.underlying23 rfl rfl Try.sizeOf3 rfl (.tmp rfl)) rfl rfl rfl ?_
                refine LW.s (SEv.store Try.sizeOf3 (.tmp rfl) (.tmp rfl) rfl hB11 (Nat.le_of_ble_eq_true rfl)) rfl rfl rfl ?_
                intro w23 Nw23
                have zw23 := Nw23.size
                replace hW := hW.sto Nw23.sto (by omega)
                replace hB3 := hB3.sto Nw23.sto (by omega)
                replace hB4 := hB4.sto Nw23.sto (by omega)
                replace hB8 := hB8.sto Nw23.sto (by omega)
                replace hB9 := hB9.sto Nw23.sto (by omega)
                replace hB10 := hB10.sto Nw23.sto (by omega)
                replace hB11 := Nw23.blk
                replace hB11 : Blk w23 B11 ({ hc1 f with Step := a.Step + 1 } : Fact).cells _ := hB11
                refine LW.nil ?_
                refine KW.inBlock ?_
                exact fun a ha => ⟨ha.sub ⟨rfl, rfl, rfl, rfl, rfl, rfl, trivial⟩, hB3, hB4, hB8, by rw [hg]; exact hB10, by rw [ho]; exact hB11, hW⟩
              · first | replace h111 := of_decide_eq_true h111 | replace h111 := of_decide_eq_false h111 | skip
                refine CW.seq ?_
                -- region 27
                refine CW.region ?_
                refine LW.p (PEv.eql (.tmp rfl) (.const _)) rfl rfl rfl ?_
                refine LW.p (PEv.assign (.tmp rfl)) rfl rfl rfl ?_
                refine LW.nil ?_
                refine KW.then ?_
                refine CW.cond (.tmp rfl) (fun h118 => ?_) (fun h118 => ?_)
                · first | replace h118 := of_decide_eq_true h118 | replace h118 := of_decide_eq_false h118 | skip
                  have hg : gOf (pickI which 6) (hc1 f) = { hc1 f with Recipe := 0 } := (if_neg h91).trans ((if_neg h97).trans ((if_neg h104).trans ((if_neg h111).trans (if_pos h118))))
                  have ho : ownOf (pickI which 6) (hc1 f) a = { hc1 f with Recipe := a.Recipe } := (if_neg h91).trans ((if_neg h97).trans ((if_neg h104).trans ((if_neg h111).trans (if_pos h118))))
                  refine CW.seq ?_
                  -- region 28
                  refine CW.region ?_
                  refine LW.p (PEv.fieldAddr (off := 14) Try.underlying23 rfl rfl Try.sizeOf3 rfl (.tmp rfl)) rfl rfl rfl ?_
                  refine LW.s (SEv.store Try.sizeOf3 (.tmp rfl) (.const _) rfl hB10 (Nat.le_of_ble_eq_true rfl)) rfl rfl rfl ?_
                  intro w24 Nw24
                  have zw24 := Nw24.size
                  replace hW := hW.sto Nw24.sto (by omega)
                  replace hB3 := hB3.sto Nw24.sto (by omega)
                  replace hB4 := hB4.sto Nw24.sto (by omega)
                  replace hB8 := hB8.sto Nw24.sto (by omega)
                  replace hB9 := hB9.sto Nw24.sto (by omega)
                  replace hB11 := hB11.sto Nw24.sto (by omega)
                  replace hB10 := Nw24.blk
                  replace hB10 : Blk w24 B10 ({ hc1 f with Recipe := 0 } : Fact).cells _ := hB10
                  refine LW.nil ?_
                  refine KW.then ?_
                  -- region 29
                  refine CW.region ?_
                  refine LW.p (PEv.fieldAddr (off := 4) Try.underlying25 rfl rfl Try.sizeOf3 rfl (.tmp rfl)) rfl rfl rfl ?_
                  refine LW.p (PEv.load Try.isAgg3 (.tmp rfl) (hB4.celln rfl)) rfl rfl rfl ?_
                  refine LW.p (PEv.fieldAddr (off := 14) Try.underlying23 rfl rfl Try.sizeOf3 rfl (.tmp rfl)) rfl rfl rfl ?_
                  refine LW.s (SEv.store Try.sizeOf3 (.tmp rfl) (.tmp rfl) rfl hB11 (Nat.le_of_ble_eq_true rfl)) rfl rfl rfl ?_
                  intro w25 Nw25
                  have zw25 := Nw25.size
                  replace hW := hW.sto Nw25.sto (by omega)
                  replace hB3 := hB3.sto Nw25.sto (by omega)
                  replace hB4 := hB4.sto Nw25.sto (by omega)
                  replace hB8 := hB8.sto Nw25.sto (by omega)
                  replace hB9 := hB9.sto Nw25.sto (by omega)
                  replace hB10 := hB10.sto Nw25.sto (by omega)
                  replace hB11 := Nw25.blk
                  replace hB11 : Blk w25 B11 ({ hc1 f with Recipe := a.Recipe } : Fact).cells _ := hB11
                  refine LW.nil ?_
                  refine KW.inBlock ?_
                  exact fun a ha => ⟨ha.sub ⟨rfl, rfl, rfl, rfl, rfl, rfl, trivial⟩, hB3, hB4, hB8, by rw [hg]; exact hB10, by rw [ho]; exact hB11, hW⟩
                · first | replace h118 := of_decide_eq_true h118 | replace h118 := of_decide_eq_false h118 | skip
                  have hg : gOf (pickI which 6) (hc1 f) = { hc1 f with Revision := 0 } := (if_neg h91).trans ((if_neg h97).trans ((if_neg h104).trans ((if_neg h111).trans (if_neg h118))))
                  have ho : ownOf (pickI which 6) (hc1 f) a = { hc1 f with Revision := a.Revision } := (if_neg h91).trans ((if_neg h97).trans ((if_neg h104).trans ((if_neg h111).trans (if_neg h118))))
                  refine CW.seq ?_
                  -- region 13
                  refine CW.region ?_
                  refine LW.p (PEv.fieldAddr (off := 15) Try.underlying23 rfl rfl Try.sizeOf3 rfl (.tmp rfl)) rfl rfl rfl ?_
                  refine LW.s (SEv.store Try.sizeOf3 (.tmp rfl) (.const _) rfl hB10 (Nat.le_of_ble_eq_true rfl)) rfl rfl rfl ?_
                  intro w26 Nw26
                  have zw26 := Nw26.size
                  replace hW := hW.sto Nw26.sto (by omega)
                  replace hB3 := hB3.sto Nw26.sto (by omega)
                  replace hB4 := hB4.sto Nw26.sto (by omega)
                  replace hB8 := hB8.sto Nw26.sto (by omega)
                  replace hB9 := hB9.sto Nw26.sto (by omega)
                  replace hB11 := hB11.sto Nw26.sto (by omega)
                  replace hB10 := Nw26.blk
                  replace hB10 : Blk w26 B10 ({ hc1 f with Revision := 0 } : Fact).cells _ := hB10
                  refine LW.nil ?_
                  refine KW.then ?_
                  -- region 14
                  refine CW.region ?_
                  refine LW.p (PEv.fieldAddr (off := 5) Try.underlying25 rfl rfl Try.sizeOf3 rfl (.tmp rfl)) rfl rfl rfl ?_
                  refine LW.p (PEv.load Try.isAgg3 (.tmp rfl) (hB4.celln rfl)) rfl rfl rfl ?_
                  refine LW.p (PEv.fieldAddr (off := 15) Try.underlying23 rfl rfl Try.sizeOf3 rfl (.tmp rfl)) rfl rfl rfl ?_
                  refine LW.s (SEv.store Try.sizeOf3 (.tmp rfl) (.tmp rfl) rfl hB11 (Nat.le_of_ble_eq_true rfl)) rfl rfl rfl ?_
                  intro w27 Nw27
                  have zw27 := Nw27.size
                  replace hW := hW.sto Nw27.sto (by omega)
                  replace hB3 := hB3.sto Nw27.sto (by omega)
                  replace hB4 := hB4.sto Nw27.sto (by omega)
                  replace hB8 := hB8.sto Nw27.sto (by omega)
                  replace hB9 := hB9.sto Nw27.sto (by omega)
                  replace hB10 := hB10.sto Nw27.sto (by omega)
                  replace hB11 := Nw27.blk
                  replace hB11 : Blk w27 B11 ({ hc1 f with Revision := a.Revision } : Fact).cells _ := hB11
                  refine LW.nil ?_
                  refine KW.inBlock ?_
                  exact fun a ha => ⟨ha.sub ⟨rfl, rfl, rfl, rfl, rfl, rfl, trivial⟩, hB3, hB4, hB8, by rw [hg]; exact hB10, by rw [ho]; exact hB11, hW⟩
      · rintro a1 w28 ⟨ha, hB3, hB4, hB8, hB10, hB11, hW⟩
        revert a1
        show CW none _ _ _ _ _ _ _ _
        refine CW.seq ?_
        -- region 30
        refine CW.region ?_
        refine LW.p (PEv.loadA Try.isAgg29 Try.sizeOf29 rfl (.tmp rfl) (hB8.agg)) rfl rfl rfl ?_
        refine LW.p (PEv.loadA Try.isAgg23 Try.sizeOf23 rfl (.tmp rfl) (hB10.agg)) rfl rfl rfl ?_
        refine LW.p (PEv.loadA Try.isAgg25 Try.sizeOf25 rfl (.tmp rfl) (hB4.agg)) rfl rfl rfl ?_
        refine LW.c (enter_call0 (.cons (.tmp rfl) (.cons (.tmp rfl) (.cons (.tmp rfl) .nil))) (Try.en6)) rfl rfl rfl rfl (Names_any _ _ _ _ _ (baseC0 _) (by decide)) ?_
        rintro _ w29 ⟨rfl, uw29⟩
        have zw29 := uw29.size
        replace hB3 := hB3.up uw29
        replace hB4 := hB4.up uw29
        replace hB8 := hB8.up uw29
        replace hB10 := hB10.up uw29
        replace hB11 := hB11.up uw29
        replace hW := hW.up uw29
        refine LW.p (PEv.assign (.tmp rfl)) rfl rfl rfl ?_
        refine LW.nil ?_
        refine KW.then ?_
        refine CW.seq ?_
        -- region 31
        refine CW.region ?_
        refine LW.p (PEv.move (.tmp rfl)) rfl rfl rfl ?_
        refine LW.p (PEv.move (.tmp rfl)) rfl rfl rfl ?_
        refine LW.g rfl rfl rfl rfl rfl rfl rfl (fun hc => PEv.move (.tmp rfl)) ?_
        refine LW.g rfl rfl rfl rfl rfl rfl rfl (fun hc => PEv.move (by first | exact .tmp rfl | exact .cond rfl (by first | assumption | simp_all))) ?_
        refine LW.gg rfl rfl rfl rfl rfl rfl rfl (fun hc => PEv.loadA Try.isAgg29 Try.sizeOf29 rfl (.tmp rfl) (hB8.agg)) ?_
        refine LW.gg rfl rfl rfl rfl rfl rfl rfl (fun hc => PEv.loadA Try.isAgg23 Try.sizeOf23 rfl (.tmp rfl) (hB3.agg)) ?_
        refine LW.gg rfl rfl rfl rfl rfl rfl rfl (fun hc => PEv.loadA Try.isAgg25 Try.sizeOf25 rfl (.tmp rfl) (hB4.agg)) ?_
        refine LW.ggc rfl rfl rfl rfl rfl rfl rfl rfl (fun hc => enter_call0 (.cons (by first | exact .tmp rfl | exact .cond rfl (by first | assumption | simp_all)) (.cons (by first | exact .tmp rfl | exact .cond rfl (by first | assumption | simp_all)) (.cons (by first | exact .tmp rfl | exact .cond rfl (by first | assumption | simp_all)) .nil))) (Try.en6)) (fun hc => Names_any _ _ _ _ _ (baseC0 _) (by decide)) ?_
        intro w30 uw30
        have zw30 := uw30.size
        replace hB3 := hB3.up uw30
        replace hB4 := hB4.up uw30
        replace hB8 := hB8.up uw30
        replace hB10 := hB10.up uw30
        replace hB11 := hB11.up uw30
        replace hW := hW.up uw30
        refine LW.gg rfl rfl rfl rfl rfl rfl rfl (fun hc => PEv.not (by first | exact .tmp rfl | exact .cond rfl (by first | assumption | simp_all))) ?_
        refine LW.g rfl rfl rfl rfl rfl rfl rfl (fun hc => PEv.pick_or (by first | exact .tmp rfl | exact .cond rfl (by first | assumption | simp_all)) (fun hp => (by first | exact .const _ | exact .tmp rfl | exact .cond rfl (by first | assumption | simp_all)))) ?_
        refine LW.p (PEv.pick_and (.tmp rfl) (fun hp => (by first | exact .const _ | exact .tmp rfl | exact .cond rfl (by first | assumption | simp_all)))) rfl rfl rfl ?_
        refine LW.p (PEv.move (.tmp rfl)) rfl rfl rfl ?_
        refine LW.g rfl rfl rfl rfl rfl rfl rfl (fun hc => PEv.loadA Try.isAgg29 Try.sizeOf29 rfl (.tmp rfl) (hB8.agg)) ?_
        refine LW.g rfl rfl rfl rfl rfl rfl rfl (fun hc => PEv.loadA Try.isAgg23 Try.sizeOf23 rfl (.tmp rfl) (hB11.agg)) ?_
        refine LW.g rfl rfl rfl rfl rfl rfl rfl (fun hc => PEv.loadA Try.isAgg25 Try.sizeOf25 rfl (.tmp rfl) (hB4.agg)) ?_
        refine LW.gc rfl rfl rfl rfl rfl rfl rfl rfl (fun hc => enter_call0 (.cons (by first | exact .tmp rfl | exact .cond rfl (by first | assumption | simp_all)) (.cons (by first | exact .tmp rfl | exact .cond rfl (by first | assumption | simp_all)) (.cons (by first | exact .tmp rfl | exact .cond rfl (by first | assumption | simp_all)) .nil))) (Try.en6)) (fun hc => Names_any _ _ _ _ _ (baseC0 _) (by decide)) ?_
        intro w31 uw31
        have zw31 := uw31.size
        replace hB3 := hB3.up uw31
        replace hB4 := hB4.up uw31
        replace hB8 := hB8.up uw31
        replace hB10 := hB10.up uw31
        replace hB11 := hB11.up uw31
        replace hW := hW.up uw31
        refine LW.g rfl rfl rfl rfl rfl rfl rfl (fun hc => PEv.move (.tmp rfl)) ?_
        refine LW.g rfl rfl rfl rfl rfl rfl rfl (fun hc => PEv.eqlB Try.underlying4 (by first | exact .tmp rfl | exact .cond rfl (by first | assumption | simp_all)) (by first | exact .tmp rfl | exact .cond rfl (by first | assumption | simp_all))) ?_
        refine LW.p (PEv.pick_and (.tmp rfl) (fun hp => (by first | exact .const _ | exact .tmp rfl | exact .cond rfl (by first | assumption | simp_all)))) rfl rfl rfl ?_
        refine LW.p (PEv.move (.tmp rfl)) rfl rfl rfl ?_
        refine LW.g rfl rfl rfl rfl rfl rfl rfl (fun hc => PEv.loadA Try.isAgg23 Try.sizeOf23 rfl (.tmp rfl) (hB3.agg)) ?_
        refine LW.g rfl rfl rfl rfl rfl rfl rfl (fun hc => PEv.loadA Try.isAgg23 Try.sizeOf23 rfl (.tmp rfl) (hB11.agg)) ?_
        refine LW.g rfl rfl rfl rfl rfl rfl rfl (fun hc => PEv.neqA Try.eqGuardType23 (Try.eqFact _ _) (.cond rfl (by first | assumption | simp_all)) (.cond rfl (by first | assumption | simp_all))) ?_
        refine LW.g rfl rfl rfl rfl rfl rfl rfl (fun hc => PEv.move (by first | exact .tmp rfl | exact .cond rfl (by first | assumption | simp_all))) ?_
        refine LW.gg rfl rfl rfl rfl rfl rfl rfl (fun hc => PEv.loadA Try.isAgg29 Try.sizeOf29 rfl (.tmp rfl) (hB8.agg)) ?_
        refine LW.gg rfl rfl rfl rfl rfl rfl rfl (fun hc => PEv.loadA Try.isAgg23 Try.sizeOf23 rfl (.tmp rfl) (hB3.agg)) ?_
        refine LW.gg rfl rfl rfl rfl rfl rfl rfl (fun hc => PEv.loadA Try.isAgg25 Try.sizeOf25 rfl (.tmp rfl) (hB4.agg)) ?_
        refine LW.ggc rfl rfl rfl rfl rfl rfl rfl rfl (fun hc => enter_call0 (.cons (by first | exact .tmp rfl | exact .cond rfl (by first | assumption | simp_all)) (.cons (by first | exact .tmp rfl | exact .cond rfl (by first | assumption | simp_all)) (.cons (by first | exact .tmp rfl | exact .cond rfl (by first | assumption | simp_all)) .nil))) (Try.en6)) (fun hc => Names_any _ _ _ _ _ (baseC0 _) (by decide)) ?_
        intro w32 uw32
        have zw32 := uw32.size
        replace hB3 := hB3.up uw32
        replace hB4 := hB4.up uw32
        replace hB8 := hB8.up uw32
        replace hB10 := hB10.up uw32
        replace hB11 := hB11.up uw32
        replace hW := hW.up uw32
        refine LW.gg rfl rfl rfl rfl rfl rfl rfl (fun hc => PEv.move (.tmp rfl)) ?_
        refine LW.gg rfl rfl rfl rfl rfl rfl rfl (fun hc => PEv.eqlB Try.underlying4 (by first | exact .tmp rfl | exact .cond rfl (by first | assumption | simp_all)) (by first | exact .tmp rfl | exact .cond rfl (by first | assumption | simp_all))) ?_
        refine LW.g rfl rfl rfl rfl rfl rfl rfl (fun hc => PEv.pick_or (by first | exact .tmp rfl | exact .cond rfl (by first | assumption | simp_all)) (fun hp => (by first | exact .const _ | exact .tmp rfl | exact .cond rfl (by first | assumption | simp_all)))) ?_
        refine LW.p (PEv.pick_and (.tmp rfl) (fun hp => (by first | exact .const _ | exact .tmp rfl | exact .cond rfl (by first | assumption | simp_all)))) rfl rfl rfl ?_
        refine LW.p (PEv.move (.tmp rfl)) rfl rfl rfl ?_
        refine LW.g rfl rfl rfl rfl rfl rfl rfl (fun hc => PEv.loadA Try.isAgg23 Try.sizeOf23 rfl (.tmp rfl) (hB3.agg)) ?_
        refine LW.g rfl rfl rfl rfl rfl rfl rfl (fun hc => PEv.loadA Try.isAgg23 Try.sizeOf23 rfl (.tmp rfl) (hB11.agg)) ?_
        refine LW.g rfl rfl rfl rfl rfl rfl rfl (fun hc => PEv.eqlA Try.eqGuardType23 (Try.eqFact _ _) (.cond rfl (by first | assumption | simp_all)) (.cond rfl (by first | assumption | simp_all))) ?_
        refine LW.g rfl rfl rfl rfl rfl rfl rfl (fun hc => PEv.move (by first | exact .tmp rfl | exact .cond rfl (by first | assumption | simp_all))) ?_
        refine LW.gg rfl rfl rfl rfl rfl rfl rfl (fun hc => PEv.loadA Try.isAgg23 Try.sizeOf23 rfl (.tmp rfl) (hB3.agg)) ?_
        refine LW.gg rfl rfl rfl rfl rfl rfl rfl (fun hc => PEv.loadA Try.isAgg23 Try.sizeOf23 rfl (.tmp rfl) (hB10.agg)) ?_
        refine LW.gg rfl rfl rfl rfl rfl rfl rfl (fun hc => PEv.eqlA Try.eqGuardType23 (Try.eqFact _ _) (.cond rfl (by first | assumption | simp_all)) (.cond rfl (by first | assumption | simp_all))) ?_
        refine LW.g rfl rfl rfl rfl rfl rfl rfl (fun hc => PEv.pick_or (by first | exact .tmp rfl | exact .cond rfl (by first | assumption | simp_all)) (fun hp => (by first | exact .const _ | exact .tmp rfl | exact .cond rfl (by first | assumption | simp_all)))) ?_
        refine LW.g rfl rfl rfl rfl rfl rfl rfl (fun hc => PEv.move (by first | exact .tmp rfl | exact .cond rfl (by first | assumption | simp_all))) ?_
        refine LW.gg rfl rfl rfl rfl rfl rfl rfl (fun hc => PEv.loadA Try.isAgg29 Try.sizeOf29 rfl (.tmp rfl) (hB8.agg)) ?_
        refine LW.gg rfl rfl rfl rfl rfl rfl rfl (fun hc => PEv.loadA Try.isAgg23 Try.sizeOf23 rfl (.tmp rfl) (hB3.agg)) ?_
        refine LW.gg rfl rfl rfl rfl rfl rfl rfl (fun hc => PEv.loadA Try.isAgg25 Try.sizeOf25 rfl (.tmp rfl) (hB4.agg)) ?_
        refine LW.ggc rfl rfl rfl rfl rfl rfl rfl rfl (fun hc => enter_call0 (.cons (by first | exact .tmp rfl | exact .cond rfl (by first | assumption | simp_all)) (.cons (by first | exact .tmp rfl | exact .cond rfl (by first | assumption | simp_all)) (.cons (by first | exact .tmp rfl | exact .cond rfl (by first | assumption | simp_all)) .nil))) (Try.en6)) (fun hc => Names_any _ _ _ _ _ (baseC0 _) (by decide)) ?_
        intro w33 uw33
        have zw33 := uw33.size
        replace hB3 := hB3.up uw33
        replace hB4 := hB4.up uw33
        replace hB8 := hB8.up uw33
        replace hB10 := hB10.up uw33
        replace hB11 := hB11.up uw33
        replace hW := hW.up uw33
        refine LW.gg rfl rfl rfl rfl rfl rfl rfl (fun hc => PEv.not (by first | exact .tmp rfl | exact .cond rfl (by first | assumption | simp_all))) ?_
        refine LW.g rfl rfl rfl rfl rfl rfl rfl (fun hc => PEv.pick_or (by first | exact .tmp rfl | exact .cond rfl (by first | assumption | simp_all)) (fun hp => (by first | exact .const _ | exact .tmp rfl | exact .cond rfl (by first | assumption | simp_all)))) ?_
        refine LW.p (PEv.pick_and (.tmp rfl) (fun hp => (by first | exact .const _ | exact .tmp rfl | exact .cond rfl (by first | assumption | simp_all)))) rfl rfl rfl ?_
        refine LW.p (PEv.assign (.tmp rfl)) rfl rfl rfl ?_
        refine LW.nil ?_
        refine KW.then ?_
        refine CW.ret ?_
        refine KW.ret1 rfl rfl ⟨_, rfl, ?_⟩
        first | exact ⟨congrArg Go.Value.bool (cond_law _ hf1 hk hi), hW⟩ | exact ⟨rfl, hW⟩

end Go.Proofs.Ytdkfjllchhoojaa
