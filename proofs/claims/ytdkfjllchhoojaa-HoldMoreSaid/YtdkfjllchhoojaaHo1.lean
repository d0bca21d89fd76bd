import Derived.Test.YtdkfjllchhoojaaNums
import Derived.Test.YtdkfjllchhoojaaFl
namespace Go.Wx

/-! ### what the functions of package hold and genealogy compute -/
structure Cond where
  want : Int
  shift : Int
  is : Int
def Cond.cells (c : Cond) : Array Go.Value := #[vi c.want, vi c.shift, vi c.is]
def Cond.met (c : Cond) : Bool := decide (c.want = 0) || (decide (c.is ≤ c.want) && decide (IntKind.i64.wrap (c.want - c.shift) = c.is))
def isIDb (n : Int) : Bool := decide (1 ≤ n) && decide (n ≤ 1000000)
def isHoldB (f : Fact) : Bool := decide (f.Kind = 7)
def spansB (f : Fact) (t : Int) : Bool := decide (f.Kind = 7) && decide (f.Time ≤ t) && decide (t ≤ f.Until)
def lotTakes (wafer time : Int) (best : Option Fact) (f : Fact) : Bool := isIDb wafer && decide (f.Wafer = wafer) && decide (f.Time ≤ time) && (match best with | none => true | some g => decide (g.Time < f.Time))
def lotStep (wafer time : Int) (best : Option Fact) (f : Fact) : Option Fact := if lotTakes wafer time best f = true then some f else best
def lotBest (l : List Fact) (wafer time : Int) : Option Fact := l.foldl (lotStep wafer time) none
def lotOf (l : List Fact) (wafer time : Int) : Int × Int := match lotBest l wafer time with | none => (0, 0) | some f => (f.Lot, f.Product)
theorem lotBest_snoc (l : List Fact) (f : Fact) (wafer time : Int) : lotBest (l ++ [f]) wafer time = lotStep wafer time (lotBest l wafer time) f := by simp [lotBest]
def aboutB (f : Fact) (lots : List Fact) (wafer time : Int) : Bool := spansB f time && [Cond.mk f.Wafer 0 wafer, Cond.mk f.Lot 0 (lotOf lots wafer time).1].all Cond.met
def namesB (f : Fact) (lots : List Fact) (a : GAct) : Bool := aboutB f lots a.Wafer a.Time && [Cond.mk f.Tool 1 a.Tool, Cond.mk f.Chamber 1 a.Chamber, Cond.mk f.Step 1 a.Step, Cond.mk f.Recipe 0 a.Recipe, Cond.mk f.Revision 0 a.Revision].all Cond.met
def orI (x y : Int) : Int := IntKind.i64.wrap (BitVec.ofInt 64 x ||| BitVec.ofInt 64 y).toNat
def andNotI (x y : Int) : Int := IntKind.i64.wrap (BitVec.ofInt 64 x &&& ~~~BitVec.ofInt 64 y).toNat
def relStep (id time : Int) (acc : Int) (r : Fact) : Int := if (decide (r.Other = id) && decide (r.Time ≤ time)) = true then orI acc r.Parties else acc
def partiesOf (l : List Fact) (id time : Int) : Int := l.foldl (relStep id time) 0
theorem partiesOf_snoc (l : List Fact) (r : Fact) (id time : Int) : partiesOf (l ++ [r]) id time = relStep id time (partiesOf l id time) r := by simp [partiesOf]
def overB (f : Fact) (rels : List Fact) (time : Int) : Bool := decide (andNotI f.Parties (partiesOf rels f.ID time) = 0)
/-- where the best one so far lies -/
def ptrAt (ad : Option Addr) (k : Nat) : Option Nat → Option Addr
  | none => none
  | some j => ad.map fun a => ⟨a.block, a.off + j * k, none⟩

end Go.Wx
namespace Go.Proofs.Ytdkfjllchhoojaa
open Go.Wx Go.RowKit
theorem isMet_any (c : Cond) (w : World) : Ret Try.prog 32 #[.agg c.cells] w fun r w' => r = .bool c.met ∧ Up w w' := by
  have hW := Up.refl w
  refine Calls_start (n := 23) (m := 9) Try.func32 rfl rfl rfl ?_
  refine CW.seq ?_
  -- region 0
  refine CW.region ?_
  refine LW.r (REv.boxA (.tmp rfl)) rfl rfl rfl rfl ?_
  rintro _ w1 ⟨B1, rfl, NB1⟩
  have eB1 := NB1.at_
  have zB1 := NB1.size
  replace hW := hW.up NB1.up
  have hB1 := NB1.blk
  refine LW.p (PEv.assign (.const _)) rfl rfl rfl ?_
  refine LW.nil ?_
  refine KW.then ?_
  refine CW.seq ?_
  -- region 1
  refine CW.region ?_
  refine LW.p (PEv.fieldAddr (off := 0) Try.underlying62 rfl rfl Try.sizeOf3 rfl (.tmp rfl)) rfl rfl rfl ?_
  refine LW.p (PEv.load Try.isAgg3 (.tmp rfl) (hB1.celln rfl)) rfl rfl rfl ?_
  refine LW.p (PEv.eql (.tmp rfl) (.const _)) rfl rfl rfl ?_
  refine LW.p (PEv.move (.tmp rfl)) rfl rfl rfl ?_
  refine LW.g rfl rfl rfl rfl rfl rfl rfl (fun hc => PEv.fieldAddr (off := 0) Try.underlying62 rfl rfl Try.sizeOf3 rfl (.tmp rfl)) ?_
  refine LW.g rfl rfl rfl rfl rfl rfl rfl (fun hc => PEv.load Try.isAgg3 (by first | exact .tmp rfl | exact .cond rfl (by first | assumption | simp_all)) (hB1.celln rfl)) ?_
  refine LW.g rfl rfl rfl rfl rfl rfl rfl (fun hc => PEv.fieldAddr (off := 2) Try.underlying62 rfl rfl Try.sizeOf3 rfl (.tmp rfl)) ?_
  refine LW.g rfl rfl rfl rfl rfl rfl rfl (fun hc => PEv.load Try.isAgg3 (by first | exact .tmp rfl | exact .cond rfl (by first | assumption | simp_all)) (hB1.celln rfl)) ?_
  refine LW.g rfl rfl rfl rfl rfl rfl rfl (fun hc => PEv.geq (by first | exact .tmp rfl | exact .cond rfl (by first | assumption | simp_all)) (by first | exact .tmp rfl | exact .cond rfl (by first | assumption | simp_all))) ?_
  refine LW.g rfl rfl rfl rfl rfl rfl rfl (fun hc => PEv.move (by first | exact .tmp rfl | exact .cond rfl (by first | assumption | simp_all))) ?_
  refine LW.gg rfl rfl rfl rfl rfl rfl rfl (fun hc => PEv.fieldAddr (off := 0) Try.underlying62 rfl rfl Try.sizeOf3 rfl (.tmp rfl)) ?_
  refine LW.gg rfl rfl rfl rfl rfl rfl rfl (fun hc => PEv.load Try.isAgg3 (by first | exact .tmp rfl | exact .cond rfl (by first | assumption | simp_all)) (hB1.celln rfl)) ?_
  refine LW.gg rfl rfl rfl rfl rfl rfl rfl (fun hc => PEv.fieldAddr (off := 1) Try.underlying62 rfl rfl Try.sizeOf3 rfl (.tmp rfl)) ?_
  refine LW.gg rfl rfl rfl rfl rfl rfl rfl (fun hc => PEv.load Try.isAgg3 (by first | exact .tmp rfl | exact .cond rfl (by first | assumption | simp_all)) (hB1.celln rfl)) ?_
  refine LW.gg rfl rfl rfl rfl rfl rfl rfl (fun hc => PEv.sub_w (by first | exact .tmp rfl | exact .cond rfl (by first | assumption | simp_all)) (by first | exact .tmp rfl | exact .cond rfl (by first | assumption | simp_all))) ?_
  refine LW.gg rfl rfl rfl rfl rfl rfl rfl (fun hc => PEv.fieldAddr (off := 2) Try.underlying62 rfl rfl Try.sizeOf3 rfl (.tmp rfl)) ?_
  refine LW.gg rfl rfl rfl rfl rfl rfl rfl (fun hc => PEv.load Try.isAgg3 (by first | exact .tmp rfl | exact .cond rfl (by first | assumption | simp_all)) (hB1.celln rfl)) ?_
  refine LW.gg rfl rfl rfl rfl rfl rfl rfl (fun hc => PEv.eql (by first | exact .tmp rfl | exact .cond rfl (by first | assumption | simp_all)) (by first | exact .tmp rfl | exact .cond rfl (by first | assumption | simp_all))) ?_
  refine LW.g rfl rfl rfl rfl rfl rfl rfl (fun hc => PEv.pick_and (by first | exact .tmp rfl | exact .cond rfl (by first | assumption | simp_all)) (fun hp => (by first | exact .const _ | exact .tmp rfl | exact .cond rfl (by first | assumption | simp_all)))) ?_
  refine LW.p (PEv.pick_or (.tmp rfl) (fun hp => (by first | exact .const _ | exact .tmp rfl | exact .cond rfl (by first | assumption | simp_all)))) rfl rfl rfl ?_
  refine LW.p (PEv.assign (.tmp rfl)) rfl rfl rfl ?_
  refine LW.nil ?_
  refine KW.then ?_
  refine CW.ret ?_
  refine KW.ret1 rfl rfl ⟨_, rfl, ?_⟩
  exact ⟨rfl, hW⟩

theorem notMet_any (c : Cond) (w : World) : Ret Try.prog 31 #[.agg c.cells] w fun r w' => r = .bool (!c.met) ∧ Up w w' := by
  have hW := Up.refl w
  refine Calls_start (n := 6) (m := 9) Try.func31 rfl rfl rfl ?_
  refine CW.seq ?_
  -- region 0
  refine CW.region ?_
  refine LW.r (REv.boxA (.tmp rfl)) rfl rfl rfl rfl ?_
  rintro _ w1 ⟨B1, rfl, NB1⟩
  have eB1 := NB1.at_
  have zB1 := NB1.size
  replace hW := hW.up NB1.up
  have hB1 := NB1.blk
  refine LW.p (PEv.assign (.const _)) rfl rfl rfl ?_
  refine LW.nil ?_
  refine KW.then ?_
  refine CW.seq ?_
  -- region 1
  refine CW.region ?_
  refine LW.p (PEv.loadA Try.isAgg62 Try.sizeOf62 rfl (.tmp rfl) (hB1.agg)) rfl rfl rfl ?_
  refine LW.c (enter_call0 (.cons (.tmp rfl) .nil) (Try.en32)) rfl rfl rfl rfl (isMet_any _ _) ?_
  rintro _ w2 ⟨rfl, uw2⟩
  have zw2 := uw2.size
  replace hW := hW.up uw2
  replace hB1 := hB1.up uw2
  refine LW.p (PEv.not (.tmp rfl)) rfl rfl rfl ?_
  refine LW.p (PEv.assign (.tmp rfl)) rfl rfl rfl ?_
  refine LW.nil ?_
  refine KW.then ?_
  refine CW.ret ?_
  refine KW.ret1 rfl rfl ⟨_, rfl, ?_⟩
  exact ⟨rfl, hW⟩

theorem indexFunc_any (v : Value) (xs : List Cond) (w : World) (h : Sl w v 3 Cond.cells xs) (hlen : xs.length ≤ 1000) : Ret Try.prog 37 #[v, .func (.func 31) #[] #[]] w fun r w' => (∃ i : Int, r = vi i ∧ decide (0 ≤ i) = xs.any fun c => !c.met) ∧ Up w w' := by
  have hW := Up.refl w
  obtain ⟨w0, rfl⟩ : ∃ w0, w0 = w := ⟨_, rfl⟩
  obtain ⟨ad, cp, rfl, hE⟩ := h
  refine Calls_start (n := 19) (m := 9) Try.func37 rfl rfl rfl ?_
  refine CW.seq ?_
  -- region 0
  refine CW.region ?_
  refine LW.p (PEv.assign (.const _)) rfl rfl rfl ?_
  refine LW.nil ?_
  refine KW.then ?_
  refine CW.seq ?_
  refine CW.seq ?_
  -- region 1
  refine CW.region ?_
  refine LW.p (PEv.move (.tmp rfl)) rfl rfl rfl ?_
  refine LW.p (PEv.lenS Try.underlying64 (.tmp rfl)) rfl rfl rfl ?_
  refine LW.p (PEv.move (.const _)) rfl rfl rfl ?_
  refine LW.nil ?_
  refine KW.then ?_
  refine CW.block ?_
  refine CW.loop (σ := Nat) (fun s w => (s ≤ xs.length ∧ (xs.take s).any (fun c => !c.met) = false) ∧ Els w ad 3 Cond.cells xs ∧ Up w0 w) (fun s => [(0, .eq (.slice ad xs.length cp)), (1, .eq (.func (.func 31) #[] #[])), (7, .eq (vi (xs.length : Int))), (8, .eq (vi (s : Int)))]) (fun s => xs.length - s) 0 ?_ ?_ ?_
  · exact ⟨⟨Nat.zero_le _, by simp⟩, hE, hW⟩
  · exact ⟨rfl, rfl, rfl, rfl, trivial⟩
  · rintro k w1 ⟨⟨hk, hA⟩, hE, hW⟩
    refine CW.seq ?_
    -- region 2
    refine CW.region ?_
    refine LW.p (PEv.lss (.tmp rfl) (.tmp rfl)) rfl rfl rfl ?_
    refine LW.nil ?_
    refine KW.then ?_
    refine CW.seq ?_
    refine CW.cond (.tmp rfl) (fun h9 => ?_) (fun h9 => ?_)
    · first | replace h9 := of_decide_eq_true h9 | replace h9 := of_decide_eq_false h9 | skip
      refine CW.skip ?_
      refine KW.then ?_
      refine CW.seq ?_
      refine CW.block ?_
      refine CW.seq ?_
      -- region 3
      refine CW.region ?_
      refine LW.p (PEv.move (.tmp rfl)) rfl rfl rfl ?_
      refine LW.p (PEv.assign (.tmp rfl)) rfl rfl rfl ?_
      refine LW.nil ?_
      refine KW.then ?_
      refine CW.seq ?_
      obtain ⟨x, hx⟩ := getElem?_of_lt (xs := xs) (i := k) (by omega)
      obtain ⟨B, o, had, hcell⟩ := hE k x hx
      -- region 4
      refine CW.region ?_
      refine LW.p (PEv.move (.tmp rfl)) rfl rfl rfl ?_
      refine LW.p (PEv.move (.tmp rfl)) rfl rfl rfl ?_
      refine LW.p (PEv.move (.tmp rfl)) rfl rfl rfl ?_
      refine LW.p (PEv.indexAddr' Try.underlying64 Try.sizeOf62 (.tmp rfl) (.tmp rfl) (by omega) had) rfl rfl rfl ?_
      refine LW.p (PEv.loadA Try.isAgg62 Try.sizeOf62 rfl (.tmp rfl) (hcell)) rfl rfl rfl ?_
      refine LW.c (enter_callv (.tmp rfl) (.cons (.tmp rfl) .nil) (Try.en31)) rfl rfl rfl rfl (notMet_any _ _) ?_
      rintro _ w2 ⟨rfl, uw2⟩
      have zw2 := uw2.size
      replace hE := hE.up uw2
      replace hW := hW.up uw2
      refine LW.nil ?_
      refine KW.then ?_
      refine CW.cond (.tmp rfl) (fun h16 => ?_) (fun h16 => ?_)
      · first | replace h16 := of_decide_eq_true h16 | replace h16 := of_decide_eq_false h16 | skip
        have hI : xs.any (fun c => !c.met) = true := List.any_eq_true.2 ⟨x, List.mem_of_getElem? hx, by simpa using h16⟩
        refine CW.seq ?_
        -- region 5
        refine CW.region ?_
        refine LW.p (PEv.move (.tmp rfl)) rfl rfl rfl ?_
        refine LW.p (PEv.assign (.tmp rfl)) rfl rfl rfl ?_
        refine LW.nil ?_
        refine KW.then ?_
        refine CW.ret ?_
        refine KW.block_ret ?_
        refine KW.then_ret ?_
        refine KW.then_ret ?_
        refine KW.block_ret ?_
        refine KW.then_ret ?_
        refine KW.ret1 rfl rfl ⟨_, rfl, ?_⟩
        first | exact ⟨⟨_, rfl, by rw [hI]; exact decide_eq_true (by omega)⟩, hW⟩ | exact ⟨⟨_, rfl, by rw [hA]; rfl⟩, hW⟩
      · first | replace h16 := of_decide_eq_true h16 | replace h16 := of_decide_eq_false h16 | skip
        refine CW.skip ?_
        refine KW.inBlock ?_
        refine KW.then ?_
        -- region 6
        refine CW.region ?_
        refine LW.p (PEv.inc (.tmp rfl) (by omega)) rfl rfl rfl ?_
        refine LW.p (PEv.move (.tmp rfl)) rfl rfl rfl ?_
        refine LW.nil ?_
        refine KW.round ?_
        exact ⟨k + 1, ⟨⟨by omega, by rw [take_succ_of hx, List.any_append, hA]; simpa using h16⟩, hE, hW⟩, ⟨rfl, rfl, rfl, rfl, trivial⟩, by omega⟩
    · first | replace h9 := of_decide_eq_true h9 | replace h9 := of_decide_eq_false h9 | skip
      have : k = xs.length := by omega
      subst this
      rw [List.take_length] at hA
      refine CW.exit ?_
      refine KW.then_exit ?_
      refine KW.then_exit ?_
      refine KW.block_hit ?_
      refine KW.then ?_
      refine CW.seq ?_
      -- region 7
      refine CW.region ?_
      refine LW.p (PEv.assign (.const _)) rfl rfl rfl ?_
      refine LW.nil ?_
      refine KW.then ?_
      refine CW.ret ?_
      refine KW.ret1 rfl rfl ⟨_, rfl, ?_⟩
      first | exact ⟨⟨_, rfl, by rw [hI]; exact decide_eq_true (by omega)⟩, hW⟩ | exact ⟨⟨_, rfl, by rw [hA]; rfl⟩, hW⟩

theorem containsFunc_any (v : Value) (xs : List Cond) (w : World) (h : Sl w v 3 Cond.cells xs) (hlen : xs.length ≤ 1000) : Ret Try.prog 30 #[v, .func (.func 31) #[] #[]] w fun r w' => r = .bool (xs.any fun c => !c.met) ∧ Up w w' := by
  have hW := Up.refl w
  refine Calls_start (n := 9) (m := 9) Try.func30 rfl rfl rfl ?_
  refine CW.seq ?_
  -- region 0
  refine CW.region ?_
  refine LW.p (PEv.assign (.const _)) rfl rfl rfl ?_
  refine LW.nil ?_
  refine KW.then ?_
  refine CW.seq ?_
  -- region 1
  refine CW.region ?_
  refine LW.p (PEv.move (.tmp rfl)) rfl rfl rfl ?_
  refine LW.p (PEv.move (.tmp rfl)) rfl rfl rfl ?_
  refine LW.c (enter_call0 (.cons (.tmp rfl) (.cons (.tmp rfl) .nil)) (Try.en37)) rfl rfl rfl rfl (indexFunc_any _ _ _ h hlen) ?_
  rintro _ w1 ⟨⟨i, rfl, hi⟩, uw1⟩
  have zw1 := uw1.size
  replace h := h.up uw1
  replace hW := hW.up uw1
  refine LW.p (PEv.geq (.tmp rfl) (.const _)) rfl rfl rfl ?_
  refine LW.p (PEv.assign (.tmp rfl)) rfl rfl rfl ?_
  refine LW.nil ?_
  refine KW.then ?_
  refine CW.ret ?_
  refine KW.ret1 rfl rfl ⟨_, rfl, ?_⟩
  exact ⟨by rw [← hi], hW⟩

theorem areMet_any (v : Value) (xs : List Cond) (w : World) (h : Sl w v 3 Cond.cells xs) (hlen : xs.length ≤ 1000) : Ret Try.prog 23 #[v] w fun r w' => r = .bool (xs.all Cond.met) ∧ Up w w' := by
  have hW := Up.refl w
  refine Calls_start (n := 6) (m := 9) Try.func23 rfl rfl rfl ?_
  refine CW.seq ?_
  -- region 0
  refine CW.region ?_
  refine LW.p (PEv.assign (.const _)) rfl rfl rfl ?_
  refine LW.nil ?_
  refine KW.then ?_
  refine CW.seq ?_
  -- region 1
  refine CW.region ?_
  refine LW.p (PEv.move (.tmp rfl)) rfl rfl rfl ?_
  refine LW.c (enter_call0 (.cons (.tmp rfl) (.cons (.func _) .nil)) (Try.en30)) rfl rfl rfl rfl (containsFunc_any _ _ _ h hlen) ?_
  rintro _ w1 ⟨rfl, uw1⟩
  have zw1 := uw1.size
  replace h := h.up uw1
  replace hW := hW.up uw1
  refine LW.p (PEv.not (.tmp rfl)) rfl rfl rfl ?_
  refine LW.p (PEv.assign (.tmp rfl)) rfl rfl rfl ?_
  refine LW.nil ?_
  refine KW.then ?_
  refine CW.ret ?_
  refine KW.ret1 rfl rfl ⟨_, rfl, ?_⟩
  exact ⟨by rw [List.all_eq_not_any_not], hW⟩

theorem isID_any (n : Int) (w : World) : Ret Try.prog 36 #[vi n] w fun r w' => r = .bool (isIDb n) ∧ Up w w' := by
  have hW := Up.refl w
  refine Calls_start (n := 9) (m := 9) Try.func36 rfl rfl rfl ?_
  refine CW.seq ?_
  -- region 0
  refine CW.region ?_
  refine LW.p (PEv.assign (.const _)) rfl rfl rfl ?_
  refine LW.nil ?_
  refine KW.then ?_
  refine CW.seq ?_
  -- region 1
  refine CW.region ?_
  refine LW.p (PEv.move (.tmp rfl)) rfl rfl rfl ?_
  refine LW.p (PEv.geq (.tmp rfl) (.const _)) rfl rfl rfl ?_
  refine LW.p (PEv.move (.tmp rfl)) rfl rfl rfl ?_
  refine LW.g rfl rfl rfl rfl rfl rfl rfl (fun hc => PEv.move (.tmp rfl)) ?_
  refine LW.g rfl rfl rfl rfl rfl rfl rfl (fun hc => PEv.leq (by first | exact .tmp rfl | exact .cond rfl (by first | assumption | simp_all)) (.const _)) ?_
  refine LW.p (PEv.pick_and (.tmp rfl) (fun hp => (by first | exact .const _ | exact .tmp rfl | exact .cond rfl (by first | assumption | simp_all)))) rfl rfl rfl ?_
  refine LW.p (PEv.assign (.tmp rfl)) rfl rfl rfl ?_
  refine LW.nil ?_
  refine KW.then ?_
  refine CW.ret ?_
  refine KW.ret1 rfl rfl ⟨_, rfl, ?_⟩
  exact ⟨rfl, hW⟩

theorem spans_any (f : Fact) (p : Addr) (t : Int) (w : World) : Ret Try.prog 29 #[.agg (holdCells f p), vi t] w fun r w' => r = .bool (spansB f t) ∧ Up w w' := by
  have hW := Up.refl w
  refine Calls_start (n := 23) (m := 9) Try.func29 rfl rfl rfl ?_
  refine CW.seq ?_
  -- region 0
  refine CW.region ?_
  refine LW.r (REv.boxA (.tmp rfl)) rfl rfl rfl rfl ?_
  rintro _ w1 ⟨B2, rfl, NB2⟩
  have eB2 := NB2.at_
  have zB2 := NB2.size
  replace hW := hW.up NB2.up
  have hB2 := NB2.blk
  refine LW.p (PEv.assign (.const _)) rfl rfl rfl ?_
  refine LW.nil ?_
  refine KW.then ?_
  refine CW.seq ?_
  -- region 1
  refine CW.region ?_
  refine LW.p (PEv.fieldAddr (off := 0) Try.underlying45 rfl rfl Try.sizeOf23 rfl (.tmp rfl)) rfl rfl rfl ?_
  refine LW.p (PEv.fieldAddr (off := 0) Try.underlying23 rfl rfl Try.sizeOf3 rfl (.tmp rfl)) rfl rfl rfl ?_
  refine LW.p (PEv.load Try.isAgg3 (.tmp rfl) (hB2.celln rfl)) rfl rfl rfl ?_
  refine LW.p (PEv.eql (.tmp rfl) (.const _)) rfl rfl rfl ?_
  refine LW.p (PEv.move (.tmp rfl)) rfl rfl rfl ?_
  refine LW.g rfl rfl rfl rfl rfl rfl rfl (fun hc => PEv.fieldAddr (off := 0) Try.underlying45 rfl rfl Try.sizeOf23 rfl (.tmp rfl)) ?_
  refine LW.g rfl rfl rfl rfl rfl rfl rfl (fun hc => PEv.fieldAddr (off := 5) Try.underlying23 rfl rfl Try.sizeOf3 rfl (by first | exact .tmp rfl | exact .cond rfl (by first | assumption | simp_all))) ?_
  refine LW.g rfl rfl rfl rfl rfl rfl rfl (fun hc => PEv.load Try.isAgg3 (by first | exact .tmp rfl | exact .cond rfl (by first | assumption | simp_all)) (hB2.celln rfl)) ?_
  refine LW.g rfl rfl rfl rfl rfl rfl rfl (fun hc => PEv.move (.tmp rfl)) ?_
  refine LW.g rfl rfl rfl rfl rfl rfl rfl (fun hc => PEv.leq (by first | exact .tmp rfl | exact .cond rfl (by first | assumption | simp_all)) (by first | exact .tmp rfl | exact .cond rfl (by first | assumption | simp_all))) ?_
  refine LW.p (PEv.pick_and (.tmp rfl) (fun hp => (by first | exact .const _ | exact .tmp rfl | exact .cond rfl (by first | assumption | simp_all)))) rfl rfl rfl ?_
  refine LW.p (PEv.move (.tmp rfl)) rfl rfl rfl ?_
  refine LW.g rfl rfl rfl rfl rfl rfl rfl (fun hc => PEv.move (.tmp rfl)) ?_
  refine LW.g rfl rfl rfl rfl rfl rfl rfl (fun hc => PEv.fieldAddr (off := 0) Try.underlying45 rfl rfl Try.sizeOf23 rfl (.tmp rfl)) ?_
  refine LW.g rfl rfl rfl rfl rfl rfl rfl (fun hc => PEv.fieldAddr (off := 6) Try.underlying23 rfl rfl Try.sizeOf3 rfl (by first | exact .tmp rfl | exact .cond rfl (by first | assumption | simp_all))) ?_
  refine LW.g rfl rfl rfl rfl rfl rfl rfl (fun hc => PEv.load Try.isAgg3 (by first | exact .tmp rfl | exact .cond rfl (by first | assumption | simp_all)) (hB2.celln rfl)) ?_
  refine LW.g rfl rfl rfl rfl rfl rfl rfl (fun hc => PEv.leq (by first | exact .tmp rfl | exact .cond rfl (by first | assumption | simp_all)) (by first | exact .tmp rfl | exact .cond rfl (by first | assumption | simp_all))) ?_
  refine LW.p (PEv.pick_and (.tmp rfl) (fun hp => (by first | exact .const _ | exact .tmp rfl | exact .cond rfl (by first | assumption | simp_all)))) rfl rfl rfl ?_
  refine LW.p (PEv.assign (.tmp rfl)) rfl rfl rfl ?_
  refine LW.nil ?_
  refine KW.then ?_
  refine CW.ret ?_
  refine KW.ret1 rfl rfl ⟨_, rfl, ?_⟩
  exact ⟨rfl, hW⟩

theorem parties_any (Bb : Nat) (bc : Array Go.Value) (b : Base) (id t : Int) (w : World) (hb : Blk w Bb bc 29) (hC : BaseC w bc b) (hlen : b.Releases.length < 9223372036854775807) : Ret Try.prog 21 #[.pointer (some ⟨Bb, 0, none⟩), vi id, vi t] w fun r w' => r = vi (partiesOf b.Releases id t) ∧ Up w w' := by
  have hW := Up.refl w
  obtain ⟨w0, rfl⟩ : ∃ w0, w0 = w := ⟨_, rfl⟩
  refine Calls_start (n := 34) (m := 9) Try.func21 rfl rfl rfl ?_
  refine CW.seq ?_
  -- region 0
  refine CW.region ?_
  refine LW.p (PEv.assign (.const _)) rfl rfl rfl ?_
  refine LW.nil ?_
  refine KW.then ?_
  refine CW.seq ?_
  refine CW.seq ?_
  obtain ⟨v7, h7, hr⟩ := hC.at7
  obtain ⟨ad, cp, rfl, hE⟩ := hr
  -- region 1
  refine CW.region ?_
  refine LW.p (PEv.move (.tmp rfl)) rfl rfl rfl ?_
  refine LW.p (PEv.nilCheck (.tmp rfl)) rfl rfl rfl ?_
  refine LW.p (PEv.fieldAddr (off := 7) Try.underlying29 rfl rfl Try.sizeOf27 rfl (.tmp rfl)) rfl rfl rfl ?_
  refine LW.p (PEv.load Try.isAgg27 (.tmp rfl) (hb.cell h7)) rfl rfl rfl ?_
  refine LW.p (PEv.lenS Try.underlying27 (.tmp rfl)) rfl rfl rfl ?_
  refine LW.p (PEv.move (.const _)) rfl rfl rfl ?_
  refine LW.nil ?_
  refine KW.then ?_
  refine CW.block ?_
  refine CW.loop (σ := Nat) (fun s w => s ≤ b.Releases.length ∧ Els w ad 19 Fact.cells b.Releases ∧ Up w0 w) (fun s => [(6, .eq (vi (partiesOf (b.Releases.take s) id t))), (1, .eq (vi id)), (2, .eq (vi t)), (12, .eq (.slice ad b.Releases.length cp)), (13, .eq (vi (b.Releases.length : Int))), (14, .eq (vi (s : Int)))]) (fun s => b.Releases.length - s) 0 ?_ ?_ ?_
  · exact ⟨Nat.zero_le _, hE, hW⟩
  · exact ⟨rfl, rfl, rfl, rfl, rfl, rfl, trivial⟩
  · rintro k w1 ⟨hk, hE, hW⟩
    refine CW.seq ?_
    -- region 2
    refine CW.region ?_
    refine LW.p (PEv.lss (.tmp rfl) (.tmp rfl)) rfl rfl rfl ?_
    refine LW.nil ?_
    refine KW.then ?_
    refine CW.seq ?_
    refine CW.cond (.tmp rfl) (fun h15 => ?_) (fun h15 => ?_)
    · first | replace h15 := of_decide_eq_true h15 | replace h15 := of_decide_eq_false h15 | skip
      refine CW.skip ?_
      refine KW.then ?_
      refine CW.seq ?_
      refine CW.block ?_
      refine CW.seq ?_
      obtain ⟨x, hx⟩ := getElem?_of_lt (xs := b.Releases) (i := k) (by omega)
      obtain ⟨B, o, had, hcell⟩ := hE k x hx
      subst had
      -- region 3
      refine CW.region ?_
      refine LW.p (PEv.indexAddr Try.underlying27 Try.sizeOf23 (.tmp rfl) (.tmp rfl) (by omega)) rfl rfl rfl ?_
      refine LW.p (PEv.loadA Try.isAgg23 Try.sizeOf23 rfl (.tmp rfl) (hcell)) rfl rfl rfl ?_
      refine LW.r (REv.allocA Try.zeroValue23) rfl rfl rfl rfl ?_
      rintro _ w2 ⟨B8, rfl, MB8⟩
      refine LW.s (SEv.storeA Try.sizeOf23 rfl (.tmp rfl) (.tmp rfl) (by first | rfl | exact Fact.one _ | exact GAct.one _ | exact holdCells_one _ _ | exact hold0_one | (simp [Value.oneCell'])) MB8.blk rfl) rfl rfl rfl ?_
      intro w3 LB8
      have NB8 := MB8.set LB8
      clear LB8 MB8
      have eB8 := NB8.at_
      have zB8 := NB8.size
      replace hE := hE.up NB8.up
      replace hW := hW.up NB8.up
      have hB8 := NB8.blk
      refine LW.nil ?_
      refine KW.then ?_
      refine CW.seq ?_
      -- region 4
      refine CW.region ?_
      refine LW.p (PEv.fieldAddr (off := 8) Try.underlying23 rfl rfl Try.sizeOf3 rfl (.tmp rfl)) rfl rfl rfl ?_
      refine LW.p (PEv.load Try.isAgg3 (.tmp rfl) (hB8.celln rfl)) rfl rfl rfl ?_
      refine LW.p (PEv.move (.tmp rfl)) rfl rfl rfl ?_
      refine LW.p (PEv.eql (.tmp rfl) (.tmp rfl)) rfl rfl rfl ?_
      refine LW.p (PEv.move (.tmp rfl)) rfl rfl rfl ?_
      refine LW.g rfl rfl rfl rfl rfl rfl rfl (fun hc => PEv.fieldAddr (off := 5) Try.underlying23 rfl rfl Try.sizeOf3 rfl (.tmp rfl)) ?_
      refine LW.g rfl rfl rfl rfl rfl rfl rfl (fun hc => PEv.load Try.isAgg3 (by first | exact .tmp rfl | exact .cond rfl (by first | assumption | simp_all)) (hB8.celln rfl)) ?_
      refine LW.g rfl rfl rfl rfl rfl rfl rfl (fun hc => PEv.move (.tmp rfl)) ?_
      refine LW.g rfl rfl rfl rfl rfl rfl rfl (fun hc => PEv.leq (by first | exact .tmp rfl | exact .cond rfl (by first | assumption | simp_all)) (by first | exact .tmp rfl | exact .cond rfl (by first | assumption | simp_all))) ?_
      refine LW.p (PEv.pick_and (.tmp rfl) (fun hp => (by first | exact .const _ | exact .tmp rfl | exact .cond rfl (by first | assumption | simp_all)))) rfl rfl rfl ?_
      refine LW.nil ?_
      refine KW.then ?_
      refine CW.cond (.tmp rfl) (fun h27 => ?_) (fun h27 => ?_)
      · first | replace h27 := of_decide_eq_true h27 | replace h27 := of_decide_eq_false h27 | skip
        have he : partiesOf (b.Releases.take (k + 1)) id t = orI (partiesOf (b.Releases.take k) id t) x.Parties := by rw [take_succ_of hx, partiesOf_snoc]; exact if_pos h27
        -- region 5
        refine CW.region ?_
        refine LW.p (PEv.move (.tmp rfl)) rfl rfl rfl ?_
        refine LW.p (PEv.fieldAddr (off := 17) Try.underlying23 rfl rfl Try.sizeOf3 rfl (.tmp rfl)) rfl rfl rfl ?_
        refine LW.p (PEv.load Try.isAgg3 (.tmp rfl) (hB8.celln rfl)) rfl rfl rfl ?_
        refine LW.p (PEv.or_w (.tmp rfl) (.tmp rfl)) rfl rfl rfl ?_
        refine LW.p (PEv.assign (.tmp rfl)) rfl rfl rfl ?_
        refine LW.nil ?_
        refine KW.inBlock ?_
        refine KW.then ?_
        -- region 6
        refine CW.region ?_
        refine LW.p (PEv.inc (.tmp rfl) (by omega)) rfl rfl rfl ?_
        refine LW.p (PEv.move (.tmp rfl)) rfl rfl rfl ?_
        refine LW.nil ?_
        refine KW.round ?_
        exact ⟨k + 1, ⟨by omega, hE, hW⟩, ⟨by rw [he]; rfl, rfl, rfl, rfl, rfl, rfl, trivial⟩, by omega⟩
      · first | replace h27 := of_decide_eq_true h27 | replace h27 := of_decide_eq_false h27 | skip
        have he : partiesOf (b.Releases.take (k + 1)) id t = partiesOf (b.Releases.take k) id t := by rw [take_succ_of hx, partiesOf_snoc]; exact if_neg (by rw [h27]; exact Bool.false_ne_true)
        refine CW.skip ?_
        refine KW.inBlock ?_
        refine KW.then ?_
        -- region 6
        refine CW.region ?_
        refine LW.p (PEv.inc (.tmp rfl) (by omega)) rfl rfl rfl ?_
        refine LW.p (PEv.move (.tmp rfl)) rfl rfl rfl ?_
        refine LW.nil ?_
        refine KW.round ?_
        exact ⟨k + 1, ⟨by omega, hE, hW⟩, ⟨by rw [he]; rfl, rfl, rfl, rfl, rfl, rfl, trivial⟩, by omega⟩
    · first | replace h15 := of_decide_eq_true h15 | replace h15 := of_decide_eq_false h15 | skip
      refine CW.exit ?_
      refine KW.then_exit ?_
      refine KW.then_exit ?_
      refine KW.block_hit ?_
      refine KW.then ?_
      refine CW.seq ?_
      -- region 7
      refine CW.region ?_
      refine LW.p (PEv.move (.tmp rfl)) rfl rfl rfl ?_
      refine LW.p (PEv.assign (.tmp rfl)) rfl rfl rfl ?_
      refine LW.nil ?_
      refine KW.then ?_
      refine CW.ret ?_
      refine KW.ret1 rfl rfl ⟨_, rfl, ?_⟩
      exact ⟨by rw [show k = b.Releases.length by omega, List.take_length], hW⟩

theorem isOver_any (f : Fact) (Bb : Nat) (bc : Array Go.Value) (b : Base) (t : Int) (w : World) (hb : Blk w Bb bc 29) (hC : BaseC w bc b) (hlen : b.Releases.length < 9223372036854775807) : Ret Try.prog 17 #[.agg (holdCells f ⟨Bb, 0, none⟩), vi t] w fun r w' => r = .bool (overB f b.Releases t) ∧ Up w w' := by
  have hW := Up.refl w
  refine Calls_start (n := 17) (m := 9) Try.func17 rfl rfl rfl ?_
  refine CW.seq ?_
  -- region 0
  refine CW.region ?_
  refine LW.r (REv.boxA (.tmp rfl)) rfl rfl rfl rfl ?_
  rintro _ w1 ⟨B2, rfl, NB2⟩
  have eB2 := NB2.at_
  have zB2 := NB2.size
  replace hb := hb.up NB2.up
  replace hC := hC.up NB2.up
  replace hW := hW.up NB2.up
  have hB2 := NB2.blk
  refine LW.p (PEv.assign (.const _)) rfl rfl rfl ?_
  refine LW.nil ?_
  refine KW.then ?_
  refine CW.seq ?_
  -- region 1 draws its order
  refine CW.draws (by kernel_rfl) (by kernel_rfl) rfl rfl ?_
  refine HW.p (PEv.fieldAddr (off := 0) Try.underlying45 rfl rfl Try.sizeOf23 rfl (.tmp rfl)) rfl rfl ?_
  refine HW.p (PEv.fieldAddr (off := 17) Try.underlying23 rfl rfl Try.sizeOf3 rfl (.tmp rfl)) rfl rfl ?_
  refine HW.p (PEv.load Try.isAgg3 (.tmp rfl) (hB2.celln rfl)) rfl rfl ?_
  refine HW.p (PEv.fieldAddr (off := 19) Try.underlying45 rfl rfl Try.sizeOf43 rfl (.tmp rfl)) rfl rfl ?_
  refine HW.p (PEv.load Try.isAgg43 (.tmp rfl) (hB2.celln rfl)) rfl rfl ?_
  refine HW.p (PEv.fieldAddr (off := 0) Try.underlying45 rfl rfl Try.sizeOf23 rfl (.tmp rfl)) rfl rfl ?_
  refine HW.p (PEv.fieldAddr (off := 1) Try.underlying23 rfl rfl Try.sizeOf3 rfl (.tmp rfl)) rfl rfl ?_
  refine HW.p (PEv.load Try.isAgg3 (.tmp rfl) (hB2.celln rfl)) rfl rfl ?_
  refine HW.p (PEv.move (.tmp rfl)) rfl rfl ?_
  refine HW.c (fun a w _ ha => enter_call0 (.cons (.tmp rfl) (.cons (.tmp rfl) (.cons (.tmp rfl) .nil))) (Try.en21) a ha) rfl rfl (fun w hu => parties_any _ _ _ _ _ _ (hb.up hu) (hC.up hu) hlen) ?_
  refine HW.p (PEv.andNot_w (.tmp rfl) (.tmp rfl)) rfl rfl ?_
  refine HW.p (PEv.eql (.tmp rfl) (.const _)) rfl rfl ?_
  refine HW.p (PEv.assign (.tmp rfl)) rfl rfl ?_
  refine HW.nil ?_
  intro w2 uw2
  have zw2 := uw2.size
  replace hb := hb.up uw2
  replace hC := hC.up uw2
  replace hW := hW.up uw2
  replace hB2 := hB2.up uw2
  refine KW.then ?_
  refine CW.ret ?_
  refine KW.ret1 rfl rfl ⟨_, rfl, ?_⟩
  exact ⟨rfl, hW⟩

set_option maxHeartbeats 1000000 in
theorem lot_any (bc : Array Go.Value) (b : Base) (wafer time : Int) (w : World) (hC : BaseC w bc b) (hlen : b.Lots.length < 9223372036854775807) : Ret Try.prog 28 #[.agg bc, vi wafer, vi time] w fun r w' => r = .tuple #[vi (lotOf b.Lots wafer time).1, vi (lotOf b.Lots wafer time).2] ∧ Up w w' := by
  have hW := Up.refl w
  obtain ⟨w0, rfl⟩ : ∃ w0, w0 = w := ⟨_, rfl⟩
  refine Calls_start (n := 61) (m := 9) Try.func28 rfl rfl rfl ?_
  refine CW.seq ?_
  -- region 0
  refine CW.region ?_
  refine LW.r (REv.boxA (.tmp rfl)) rfl rfl rfl rfl ?_
  rintro _ w1 ⟨B3, rfl, NB3⟩
  have eB3 := NB3.at_
  have zB3 := NB3.size
  replace hC := hC.up NB3.up
  replace hW := hW.up NB3.up
  have hB3 := NB3.blk
  refine LW.p (PEv.assign (.const _)) rfl rfl rfl ?_
  refine LW.p (PEv.assign (.const _)) rfl rfl rfl ?_
  refine LW.nil ?_
  refine KW.then ?_
  refine CW.seq ?_
  -- region 1
  refine CW.region ?_
  refine LW.p (PEv.assign (.const _)) rfl rfl rfl ?_
  refine LW.nil ?_
  refine KW.then ?_
  refine CW.seq ?_
  refine CW.seq ?_
  obtain ⟨v3, h3, hr⟩ := hC.at3
  obtain ⟨ad, cp, rfl, hE⟩ := hr
  -- region 2
  refine CW.region ?_
  refine LW.p (PEv.fieldAddr (off := 3) Try.underlying29 rfl rfl Try.sizeOf27 rfl (.tmp rfl)) rfl rfl rfl ?_
  refine LW.p (PEv.load Try.isAgg27 (.tmp rfl) (hB3.cell h3)) rfl rfl rfl ?_
  refine LW.p (PEv.lenS Try.underlying27 (.tmp rfl)) rfl rfl rfl ?_
  refine LW.p (PEv.move (.const _)) rfl rfl rfl ?_
  refine LW.nil ?_
  refine KW.then ?_
  refine CW.block ?_
  refine CW.loop (σ := Nat × Option Nat) (fun s w => (s.1 ≤ b.Lots.length ∧ (∀ j, s.2 = some j → j < s.1) ∧ (s.2.bind fun j => b.Lots[j]?) = lotBest (b.Lots.take s.1) wafer time) ∧ Els w ad 19 Fact.cells b.Lots ∧ Blk w B3 bc 29 ∧ Up w0 w) (fun s => [(8, .eq (.pointer (ptrAt ad 19 s.2))), (14, .eq (vi (s.1 : Int))), (1, .eq (vi wafer)), (2, .eq (vi time)), (3, .eq (.pointer (some ⟨B3, 0, none⟩))), (12, .eq (.slice ad b.Lots.length cp)), (13, .eq (vi (b.Lots.length : Int)))]) (fun s => b.Lots.length - s.1) (0, none) ?_ ?_ ?_
  · exact ⟨⟨Nat.zero_le _, fun j e => (by cases e), rfl⟩, hE, hB3, hW⟩
  · exact ⟨rfl, rfl, rfl, rfl, rfl, rfl, rfl, trivial⟩
  · rintro ⟨k, best⟩ w2 ⟨⟨hk, hj, hbest⟩, hE, hB3, hW⟩
    dsimp only at hk hj hbest
    rcases best with _ | j
    · skip
      refine CW.seq ?_
      -- region 3
      refine CW.region ?_
      refine LW.p (PEv.lss (.tmp rfl) (.tmp rfl)) rfl rfl rfl ?_
      refine LW.nil ?_
      refine KW.then ?_
      refine CW.seq ?_
      refine CW.cond (.tmp rfl) (fun h15 => ?_) (fun h15 => ?_)
      · first | replace h15 := of_decide_eq_true h15 | replace h15 := of_decide_eq_false h15 | skip
        refine CW.skip ?_
        refine KW.then ?_
        refine CW.seq ?_
        refine CW.block ?_
        refine CW.seq ?_
        obtain ⟨x, hx⟩ := getElem?_of_lt (xs := b.Lots) (i := k) (by omega)
        obtain ⟨B, o, had, hcell⟩ := hE k x hx
        subst had
        -- region 4
        refine CW.region ?_
        refine LW.p (PEv.move (.tmp rfl)) rfl rfl rfl ?_
        refine LW.p (PEv.indexAddr Try.underlying27 Try.sizeOf23 (.tmp rfl) (.tmp rfl) (by omega)) rfl rfl rfl ?_
        refine LW.p (PEv.loadA Try.isAgg23 Try.sizeOf23 rfl (.tmp rfl) (hcell)) rfl rfl rfl ?_
        refine LW.r (REv.allocA Try.zeroValue23) rfl rfl rfl rfl ?_
        rintro _ w3 ⟨B10, rfl, MB10⟩
        refine LW.p (PEv.assign (.tmp rfl)) rfl rfl rfl ?_
        refine LW.s (SEv.storeA Try.sizeOf23 rfl (.tmp rfl) (.tmp rfl) (by first | rfl | exact Fact.one _ | exact GAct.one _ | exact holdCells_one _ _ | exact hold0_one | (simp [Value.oneCell'])) MB10.blk rfl) rfl rfl rfl ?_
        intro w4 LB10
        have NB10 := MB10.set LB10
        clear LB10 MB10
        have eB10 := NB10.at_
        have zB10 := NB10.size
        replace hE := hE.up NB10.up
        replace hB3 := hB3.up NB10.up
        replace hW := hW.up NB10.up
        have hB10 := NB10.blk
        refine LW.nil ?_
        refine KW.then ?_
        refine CW.seq ?_
        -- region 5 draws its order
        refine CW.draws (by kernel_rfl) (by kernel_rfl) rfl rfl ?_
        refine HW.p (PEv.move (.tmp rfl)) rfl rfl ?_
        refine HW.c (fun a w _ ha => enter_call0 (.cons (.tmp rfl) .nil) (Try.en36) a ha) rfl rfl (fun w hu => isID_any _ _) ?_
        refine HW.p (PEv.move (.tmp rfl)) rfl rfl ?_
        refine HW.g rfl rfl rfl rfl rfl rfl (fun hc => PEv.fieldAddr (off := 7) Try.underlying23 rfl rfl Try.sizeOf3 rfl (.tmp rfl)) ?_
        refine HW.g rfl rfl rfl rfl rfl rfl (fun hc => PEv.load Try.isAgg3 (by first | exact .tmp rfl | exact .cond rfl (by first | assumption | simp_all)) (hB10.celln rfl)) ?_
        refine HW.g rfl rfl rfl rfl rfl rfl (fun hc => PEv.move (.tmp rfl)) ?_
        refine HW.g rfl rfl rfl rfl rfl rfl (fun hc => PEv.eql (by first | exact .tmp rfl | exact .cond rfl (by first | assumption | simp_all)) (by first | exact .tmp rfl | exact .cond rfl (by first | assumption | simp_all))) ?_
        refine HW.p (PEv.pick_and (.tmp rfl) (fun hp => (by first | exact .const _ | exact .tmp rfl | exact .cond rfl (by first | assumption | simp_all)))) rfl rfl ?_
        refine HW.p (PEv.move (.tmp rfl)) rfl rfl ?_
        refine HW.g rfl rfl rfl rfl rfl rfl (fun hc => PEv.fieldAddr (off := 5) Try.underlying23 rfl rfl Try.sizeOf3 rfl (.tmp rfl)) ?_
        refine HW.g rfl rfl rfl rfl rfl rfl (fun hc => PEv.load Try.isAgg3 (by first | exact .tmp rfl | exact .cond rfl (by first | assumption | simp_all)) (hB10.celln rfl)) ?_
        refine HW.g rfl rfl rfl rfl rfl rfl (fun hc => PEv.move (.tmp rfl)) ?_
        refine HW.g rfl rfl rfl rfl rfl rfl (fun hc => PEv.leq (by first | exact .tmp rfl | exact .cond rfl (by first | assumption | simp_all)) (by first | exact .tmp rfl | exact .cond rfl (by first | assumption | simp_all))) ?_
        refine HW.p (PEv.pick_and (.tmp rfl) (fun hp => (by first | exact .const _ | exact .tmp rfl | exact .cond rfl (by first | assumption | simp_all)))) rfl rfl ?_
        refine HW.p (PEv.move (.tmp rfl)) rfl rfl ?_
        refine HW.g rfl rfl rfl rfl rfl rfl (fun hc => PEv.move (.tmp rfl)) ?_
        refine HW.g rfl rfl rfl rfl rfl rfl (fun hc => PEv.eqlNil Try.underlying75 (by first | exact .tmp rfl | exact .cond rfl (by first | assumption | simp_all))) ?_
        refine HW.g rfl rfl rfl rfl rfl rfl (fun hc => PEv.move (by first | exact .tmp rfl | exact .cond rfl (by first | assumption | simp_all))) ?_
        refine HW.nog rfl rfl rfl rfl rfl rfl rfl ?_
        refine HW.nog rfl rfl rfl rfl rfl rfl rfl ?_
        refine HW.nog rfl rfl rfl rfl rfl rfl rfl ?_
        refine HW.nog rfl rfl rfl rfl rfl rfl rfl ?_
        refine HW.nog rfl rfl rfl rfl rfl rfl rfl ?_
        refine HW.nog rfl rfl rfl rfl rfl rfl rfl ?_
        refine HW.nog rfl rfl rfl rfl rfl rfl rfl ?_
        refine HW.g rfl rfl rfl rfl rfl rfl (fun hc => PEv.pick_or (b := true) (by first | exact .tmp rfl | exact .cond rfl (by first | assumption | simp_all)) (fun hp => absurd (show true = false from hp) (by decide))) ?_
        refine HW.p (PEv.pick_and (.tmp rfl) (fun hp => (by first | exact .const _ | exact .tmp rfl | exact .cond rfl (by first | assumption | simp_all)))) rfl rfl ?_
        refine HW.nil ?_
        intro w5 uw5
        have zw5 := uw5.size
        replace hE := hE.up uw5
        replace hB3 := hB3.up uw5
        replace hW := hW.up uw5
        replace hB10 := hB10.up uw5
        refine KW.then ?_
        refine CW.cond (.tmp rfl) (fun h45 => ?_) (fun h45 => ?_)
        · first | replace h45 := of_decide_eq_true h45 | replace h45 := of_decide_eq_false h45 | skip
          have hnew : lotBest (b.Lots.take (k + 1)) wafer time = some x := by rw [take_succ_of hx, lotBest_snoc, ← hbest]; exact if_pos (by simpa [lotTakes, ptrAt] using h45)
          have hend : ∃ s' : Nat × Option Nat, s'.2 = some k ∧ s'.1 = k + 1 := ⟨(k + 1, some k), rfl, rfl⟩
          -- region 6
          refine CW.region ?_
          refine LW.p (PEv.fieldAddr (off := 3) Try.underlying29 rfl rfl Try.sizeOf27 rfl (.tmp rfl)) rfl rfl rfl ?_
          refine LW.p (PEv.load Try.isAgg27 (.tmp rfl) (hB3.cell h3)) rfl rfl rfl ?_
          refine LW.p (PEv.move (.tmp rfl)) rfl rfl rfl ?_
          refine LW.p (PEv.indexAddr Try.underlying27 Try.sizeOf23 (.tmp rfl) (.tmp rfl) (by omega)) rfl rfl rfl ?_
          refine LW.p (PEv.assign (.tmp rfl)) rfl rfl rfl ?_
          refine LW.nil ?_
          refine KW.inBlock ?_
          refine KW.then ?_
          -- region 7
          refine CW.region ?_
          refine LW.p (PEv.inc (.tmp rfl) (by omega)) rfl rfl rfl ?_
          refine LW.p (PEv.move (.tmp rfl)) rfl rfl rfl ?_
          refine LW.nil ?_
          refine KW.round ?_
          first | exact ⟨(k + 1, some k), ⟨⟨by omega, fun j e => (by cases e; omega), by rw [hnew]; exact hx⟩, hE, hB3, hW⟩, ⟨rfl, rfl, rfl, rfl, rfl, rfl, rfl, trivial⟩, by omega⟩ | exact ⟨(k + 1, none), ⟨⟨by omega, fun j e => (by cases e), by rw [hnew]; rfl⟩, hE, hB3, hW⟩, ⟨rfl, rfl, rfl, rfl, rfl, rfl, rfl, trivial⟩, by dsimp only; omega⟩ | exact ⟨(k + 1, some j), ⟨⟨by omega, fun i e => (by cases e; have := hj j rfl; omega), by rw [hnew]; exact hy⟩, hE, hB3, hW⟩, ⟨rfl, rfl, rfl, rfl, rfl, rfl, rfl, trivial⟩, by dsimp only; omega⟩
        · first | replace h45 := of_decide_eq_true h45 | replace h45 := of_decide_eq_false h45 | skip
          have hnew : lotBest (b.Lots.take (k + 1)) wafer time = none := by rw [take_succ_of hx, lotBest_snoc, ← hbest]; exact if_neg (by simpa [lotTakes, ptrAt] using h45)
          refine CW.skip ?_
          refine KW.inBlock ?_
          refine KW.then ?_
          -- region 7
          refine CW.region ?_
          refine LW.p (PEv.inc (.tmp rfl) (by omega)) rfl rfl rfl ?_
          refine LW.p (PEv.move (.tmp rfl)) rfl rfl rfl ?_
          refine LW.nil ?_
          refine KW.round ?_
          first | exact ⟨(k + 1, some k), ⟨⟨by omega, fun j e => (by cases e; omega), by rw [hnew]; exact hx⟩, hE, hB3, hW⟩, ⟨rfl, rfl, rfl, rfl, rfl, rfl, rfl, trivial⟩, by omega⟩ | exact ⟨(k + 1, none), ⟨⟨by omega, fun j e => (by cases e), by rw [hnew]; rfl⟩, hE, hB3, hW⟩, ⟨rfl, rfl, rfl, rfl, rfl, rfl, rfl, trivial⟩, by dsimp only; omega⟩ | exact ⟨(k + 1, some j), ⟨⟨by omega, fun i e => (by cases e; have := hj j rfl; omega), by rw [hnew]; exact hy⟩, hE, hB3, hW⟩, ⟨rfl, rfl, rfl, rfl, rfl, rfl, rfl, trivial⟩, by dsimp only; omega⟩
      · first | replace h15 := of_decide_eq_true h15 | replace h15 := of_decide_eq_false h15 | skip
        have hkk : k = b.Lots.length := by omega
        subst hkk
        rw [List.take_length] at hbest
        have hres : lotOf b.Lots wafer time = (0, 0) := by unfold lotOf; rw [← hbest]; rfl
        refine CW.exit ?_
        refine KW.then_exit ?_
        refine KW.then_exit ?_
        refine KW.block_hit ?_
        refine KW.then ?_
        refine CW.seq ?_
        refine CW.seq ?_
        -- region 8
        refine CW.region ?_
        refine LW.p (PEv.move (.tmp rfl)) rfl rfl rfl ?_
        refine LW.p (PEv.eqlNil Try.underlying75 (.tmp rfl)) rfl rfl rfl ?_
        refine LW.nil ?_
        refine KW.then ?_
        refine CW.cond_true (.tmp rfl) ?_
        refine CW.seq ?_
        -- region 9
        refine CW.region ?_
        refine LW.p (PEv.assign (.const _)) rfl rfl rfl ?_
        refine LW.p (PEv.assign (.const _)) rfl rfl rfl ?_
        refine LW.nil ?_
        refine KW.then ?_
        refine CW.ret ?_
        refine KW.then_ret ?_
        refine KW.ret2 rfl rfl rfl ⟨_, rfl, ?_⟩
        exact ⟨by rw [hres] <;> rfl, hW⟩
    · obtain ⟨y, hy⟩ := getElem?_of_lt (xs := b.Lots) (i := j) (by have := hj j rfl; omega)
      obtain ⟨B, o, had, hyc⟩ := hE j y hy
      subst had
      have hby : lotBest (b.Lots.take k) wafer time = some y := by rw [← hbest]; exact hy
      refine CW.seq ?_
      -- region 3
      refine CW.region ?_
      refine LW.p (PEv.lss (.tmp rfl) (.tmp rfl)) rfl rfl rfl ?_
      refine LW.nil ?_
      refine KW.then ?_
      refine CW.seq ?_
      refine CW.cond (.tmp rfl) (fun h15 => ?_) (fun h15 => ?_)
      · first | replace h15 := of_decide_eq_true h15 | replace h15 := of_decide_eq_false h15 | skip
        refine CW.skip ?_
        refine KW.then ?_
        refine CW.seq ?_
        refine CW.block ?_
        refine CW.seq ?_
        obtain ⟨x, hx⟩ := getElem?_of_lt (xs := b.Lots) (i := k) (by omega)
        obtain ⟨B', o', e', hcell⟩ := hE k x hx
        cases e'
        -- region 4
        refine CW.region ?_
        refine LW.p (PEv.move (.tmp rfl)) rfl rfl rfl ?_
        refine LW.p (PEv.indexAddr Try.underlying27 Try.sizeOf23 (.tmp rfl) (.tmp rfl) (by omega)) rfl rfl rfl ?_
        refine LW.p (PEv.loadA Try.isAgg23 Try.sizeOf23 rfl (.tmp rfl) (hcell)) rfl rfl rfl ?_
        refine LW.r (REv.allocA Try.zeroValue23) rfl rfl rfl rfl ?_
        rintro _ w6 ⟨B10, rfl, MB10⟩
        refine LW.p (PEv.assign (.tmp rfl)) rfl rfl rfl ?_
        refine LW.s (SEv.storeA Try.sizeOf23 rfl (.tmp rfl) (.tmp rfl) (by first | rfl | exact Fact.one _ | exact GAct.one _ | exact holdCells_one _ _ | exact hold0_one | (simp [Value.oneCell'])) MB10.blk rfl) rfl rfl rfl ?_
        intro w7 LB10
        have NB10 := MB10.set LB10
        clear LB10 MB10
        have eB10 := NB10.at_
        have zB10 := NB10.size
        replace hE := hE.up NB10.up
        replace hB3 := hB3.up NB10.up
        replace hW := hW.up NB10.up
        replace hyc := hyc.up NB10.up
        have hB10 := NB10.blk
        refine LW.nil ?_
        refine KW.then ?_
        refine CW.seq ?_
        -- region 5 draws its order
        refine CW.draws (by kernel_rfl) (by kernel_rfl) rfl rfl ?_
        refine HW.p (PEv.move (.tmp rfl)) rfl rfl ?_
        refine HW.c (fun a w _ ha => enter_call0 (.cons (.tmp rfl) .nil) (Try.en36) a ha) rfl rfl (fun w hu => isID_any _ _) ?_
        refine HW.p (PEv.move (.tmp rfl)) rfl rfl ?_
        refine HW.g rfl rfl rfl rfl rfl rfl (fun hc => PEv.fieldAddr (off := 7) Try.underlying23 rfl rfl Try.sizeOf3 rfl (.tmp rfl)) ?_
        refine HW.g rfl rfl rfl rfl rfl rfl (fun hc => PEv.load Try.isAgg3 (by first | exact .tmp rfl | exact .cond rfl (by first | assumption | simp_all)) (hB10.celln rfl)) ?_
        refine HW.g rfl rfl rfl rfl rfl rfl (fun hc => PEv.move (.tmp rfl)) ?_
        refine HW.g rfl rfl rfl rfl rfl rfl (fun hc => PEv.eql (by first | exact .tmp rfl | exact .cond rfl (by first | assumption | simp_all)) (by first | exact .tmp rfl | exact .cond rfl (by first | assumption | simp_all))) ?_
        refine HW.p (PEv.pick_and (.tmp rfl) (fun hp => (by first | exact .const _ | exact .tmp rfl | exact .cond rfl (by first | assumption | simp_all)))) rfl rfl ?_
        refine HW.p (PEv.move (.tmp rfl)) rfl rfl ?_
        refine HW.g rfl rfl rfl rfl rfl rfl (fun hc => PEv.fieldAddr (off := 5) Try.underlying23 rfl rfl Try.sizeOf3 rfl (.tmp rfl)) ?_
        refine HW.g rfl rfl rfl rfl rfl rfl (fun hc => PEv.load Try.isAgg3 (by first | exact .tmp rfl | exact .cond rfl (by first | assumption | simp_all)) (hB10.celln rfl)) ?_
        refine HW.g rfl rfl rfl rfl rfl rfl (fun hc => PEv.move (.tmp rfl)) ?_
        refine HW.g rfl rfl rfl rfl rfl rfl (fun hc => PEv.leq (by first | exact .tmp rfl | exact .cond rfl (by first | assumption | simp_all)) (by first | exact .tmp rfl | exact .cond rfl (by first | assumption | simp_all))) ?_
        refine HW.p (PEv.pick_and (.tmp rfl) (fun hp => (by first | exact .const _ | exact .tmp rfl | exact .cond rfl (by first | assumption | simp_all)))) rfl rfl ?_
        refine HW.p (PEv.move (.tmp rfl)) rfl rfl ?_
        refine HW.g rfl rfl rfl rfl rfl rfl (fun hc => PEv.move (.tmp rfl)) ?_
        refine HW.g rfl rfl rfl rfl rfl rfl (fun hc => PEv.eqlNil Try.underlying75 (by first | exact .tmp rfl | exact .cond rfl (by first | assumption | simp_all))) ?_
        refine HW.g rfl rfl rfl rfl rfl rfl (fun hc => PEv.move (by first | exact .tmp rfl | exact .cond rfl (by first | assumption | simp_all))) ?_
        refine HW.gg rfl rfl rfl rfl rfl rfl (fun hc => PEv.fieldAddr (off := 5) Try.underlying23 rfl rfl Try.sizeOf3 rfl (.tmp rfl)) ?_
        refine HW.gg rfl rfl rfl rfl rfl rfl (fun hc => PEv.load Try.isAgg3 (by first | exact .tmp rfl | exact .cond rfl (by first | assumption | simp_all)) (hB10.celln rfl)) ?_
        refine HW.gg rfl rfl rfl rfl rfl rfl (fun hc => PEv.move (.tmp rfl)) ?_
        refine HW.gg rfl rfl rfl rfl rfl rfl (fun hc => PEv.nilCheck (by first | exact .tmp rfl | exact .cond rfl (by first | assumption | simp_all))) ?_
        refine HW.gg rfl rfl rfl rfl rfl rfl (fun hc => PEv.fieldAddr (off := 5) Try.underlying23 rfl rfl Try.sizeOf3 rfl (by first | exact .tmp rfl | exact .cond rfl (by first | assumption | simp_all))) ?_
        refine HW.gg rfl rfl rfl rfl rfl rfl (fun hc => PEv.load Try.isAgg3 (by first | exact .tmp rfl | exact .cond rfl (by first | assumption | simp_all)) (hyc.nth (j := 5) rfl)) ?_
        refine HW.gg rfl rfl rfl rfl rfl rfl (fun hc => PEv.gtr (by first | exact .tmp rfl | exact .cond rfl (by first | assumption | simp_all)) (by first | exact .tmp rfl | exact .cond rfl (by first | assumption | simp_all))) ?_
        refine HW.g rfl rfl rfl rfl rfl rfl (fun hc => PEv.pick_or (by first | exact .tmp rfl | exact .cond rfl (by first | assumption | simp_all)) (fun hp => (by first | exact .const _ | exact .tmp rfl | exact .cond rfl (by first | assumption | simp_all)))) ?_
        refine HW.p (PEv.pick_and (.tmp rfl) (fun hp => (by first | exact .const _ | exact .tmp rfl | exact .cond rfl (by first | assumption | simp_all)))) rfl rfl ?_
        refine HW.nil ?_
        intro w8 uw8
        have zw8 := uw8.size
        replace hE := hE.up uw8
        replace hB3 := hB3.up uw8
        replace hW := hW.up uw8
        replace hyc := hyc.up uw8
        replace hB10 := hB10.up uw8
        refine KW.then ?_
        refine CW.cond (.tmp rfl) (fun h45 => ?_) (fun h45 => ?_)
        · first | replace h45 := of_decide_eq_true h45 | replace h45 := of_decide_eq_false h45 | skip
          have hnew : lotBest (b.Lots.take (k + 1)) wafer time = some x := by rw [take_succ_of hx, lotBest_snoc, hby]; exact if_pos (by simpa [lotTakes, ptrAt] using h45)
          -- region 6
          refine CW.region ?_
          refine LW.p (PEv.fieldAddr (off := 3) Try.underlying29 rfl rfl Try.sizeOf27 rfl (.tmp rfl)) rfl rfl rfl ?_
          refine LW.p (PEv.load Try.isAgg27 (.tmp rfl) (hB3.cell h3)) rfl rfl rfl ?_
          refine LW.p (PEv.move (.tmp rfl)) rfl rfl rfl ?_
          refine LW.p (PEv.indexAddr Try.underlying27 Try.sizeOf23 (.tmp rfl) (.tmp rfl) (by omega)) rfl rfl rfl ?_
          refine LW.p (PEv.assign (.tmp rfl)) rfl rfl rfl ?_
          refine LW.nil ?_
          refine KW.inBlock ?_
          refine KW.then ?_
          -- region 7
          refine CW.region ?_
          refine LW.p (PEv.inc (.tmp rfl) (by omega)) rfl rfl rfl ?_
          refine LW.p (PEv.move (.tmp rfl)) rfl rfl rfl ?_
          refine LW.nil ?_
          refine KW.round ?_
          first | exact ⟨(k + 1, some k), ⟨⟨by omega, fun j e => (by cases e; omega), by rw [hnew]; exact hx⟩, hE, hB3, hW⟩, ⟨rfl, rfl, rfl, rfl, rfl, rfl, rfl, trivial⟩, by omega⟩ | exact ⟨(k + 1, none), ⟨⟨by omega, fun j e => (by cases e), by rw [hnew]; rfl⟩, hE, hB3, hW⟩, ⟨rfl, rfl, rfl, rfl, rfl, rfl, rfl, trivial⟩, by dsimp only; omega⟩ | exact ⟨(k + 1, some j), ⟨⟨by omega, fun i e => (by cases e; have := hj j rfl; omega), by rw [hnew]; exact hy⟩, hE, hB3, hW⟩, ⟨rfl, rfl, rfl, rfl, rfl, rfl, rfl, trivial⟩, by dsimp only; omega⟩
        · first | replace h45 := of_decide_eq_true h45 | replace h45 := of_decide_eq_false h45 | skip
          have hnew : lotBest (b.Lots.take (k + 1)) wafer time = some y := by rw [take_succ_of hx, lotBest_snoc, hby]; exact if_neg (by simpa [lotTakes, ptrAt] using h45)
          refine CW.skip ?_
          refine KW.inBlock ?_
          refine KW.then ?_
          -- region 7
          refine CW.region ?_
          refine LW.p (PEv.inc (.tmp rfl) (by omega)) rfl rfl rfl ?_
          refine LW.p (PEv.move (.tmp rfl)) rfl rfl rfl ?_
          refine LW.nil ?_
          refine KW.round ?_
          first | exact ⟨(k + 1, some k), ⟨⟨by omega, fun j e => (by cases e; omega), by rw [hnew]; exact hx⟩, hE, hB3, hW⟩, ⟨rfl, rfl, rfl, rfl, rfl, rfl, rfl, trivial⟩, by omega⟩ | exact ⟨(k + 1, none), ⟨⟨by omega, fun j e => (by cases e), by rw [hnew]; rfl⟩, hE, hB3, hW⟩, ⟨rfl, rfl, rfl, rfl, rfl, rfl, rfl, trivial⟩, by dsimp only; omega⟩ | exact ⟨(k + 1, some j), ⟨⟨by omega, fun i e => (by cases e; have := hj j rfl; omega), by rw [hnew]; exact hy⟩, hE, hB3, hW⟩, ⟨rfl, rfl, rfl, rfl, rfl, rfl, rfl, trivial⟩, by dsimp only; omega⟩
      · first | replace h15 := of_decide_eq_true h15 | replace h15 := of_decide_eq_false h15 | skip
        have hkk : k = b.Lots.length := by omega
        subst hkk
        rw [List.take_length] at hby
        have hres : lotOf b.Lots wafer time = (y.Lot, y.Product) := by unfold lotOf; rw [hby]
        refine CW.exit ?_
        refine KW.then_exit ?_
        refine KW.then_exit ?_
        refine KW.block_hit ?_
        refine KW.then ?_
        refine CW.seq ?_
        refine CW.seq ?_
        -- region 8
        refine CW.region ?_
        refine LW.p (PEv.move (.tmp rfl)) rfl rfl rfl ?_
        refine LW.p (PEv.eqlNil Try.underlying75 (.tmp rfl)) rfl rfl rfl ?_
        refine LW.nil ?_
        refine KW.then ?_
        refine CW.cond_false (.tmp rfl) ?_
        refine CW.skip ?_
        refine KW.then ?_
        refine CW.seq ?_
        -- region 10 draws its order
        refine CW.draws (by kernel_rfl) (by kernel_rfl) rfl rfl ?_
        refine HW.p (PEv.move (.tmp rfl)) rfl rfl ?_
        refine HW.p (PEv.nilCheck (.tmp rfl)) rfl rfl ?_
        refine HW.p (PEv.fieldAddr (off := 9) Try.underlying23 rfl rfl Try.sizeOf3 rfl (.tmp rfl)) rfl rfl ?_
        refine HW.p (PEv.load Try.isAgg3 (.tmp rfl) (hyc.nth (j := 9) rfl)) rfl rfl ?_
        refine HW.p (PEv.move (.tmp rfl)) rfl rfl ?_
        refine HW.p (PEv.nilCheck (.tmp rfl)) rfl rfl ?_
        refine HW.p (PEv.fieldAddr (off := 10) Try.underlying23 rfl rfl Try.sizeOf3 rfl (.tmp rfl)) rfl rfl ?_
        refine HW.p (PEv.load Try.isAgg3 (.tmp rfl) (hyc.nth (j := 10) rfl)) rfl rfl ?_
        refine HW.p (PEv.assign (.tmp rfl)) rfl rfl ?_
        refine HW.p (PEv.assign (.tmp rfl)) rfl rfl ?_
        refine HW.nil ?_
        intro w9 uw9
        have zw9 := uw9.size
        replace hE := hE.up uw9
        replace hB3 := hB3.up uw9
        replace hW := hW.up uw9
        replace hyc := hyc.up uw9
        refine KW.then ?_
        refine CW.ret ?_
        refine KW.ret2 rfl rfl rfl ⟨_, rfl, ?_⟩
        exact ⟨by rw [hres] <;> rfl, hW⟩

theorem isAbout_any (f : Fact) (Bb : Nat) (bc : Array Go.Value) (b : Base) (wafer time : Int) (w : World) (hb : Blk w Bb bc 29) (hC : BaseC w bc b) (hlen : b.Lots.length < 9223372036854775807) : Ret Try.prog 22 #[.agg (holdCells f ⟨Bb, 0, none⟩), vi wafer, vi time] w fun r w' => r = .bool (aboutB f b.Lots wafer time) ∧ Up w w' := by
  have hW := Up.refl w
  refine Calls_start (n := 36) (m := 9) Try.func22 rfl rfl rfl ?_
  refine CW.seq ?_
  -- region 0
  refine CW.region ?_
  refine LW.r (REv.boxA (.tmp rfl)) rfl rfl rfl rfl ?_
  rintro _ w1 ⟨B3, rfl, NB3⟩
  have eB3 := NB3.at_
  have zB3 := NB3.size
  replace hb := hb.up NB3.up
  replace hC := hC.up NB3.up
  replace hW := hW.up NB3.up
  have hB3 := NB3.blk
  refine LW.p (PEv.assign (.const _)) rfl rfl rfl ?_
  refine LW.nil ?_
  refine KW.then ?_
  refine CW.seq ?_
  -- region 1
  refine CW.region ?_
  refine LW.p (PEv.fieldAddr (off := 19) Try.underlying45 rfl rfl Try.sizeOf43 rfl (.tmp rfl)) rfl rfl rfl ?_
  refine LW.p (PEv.load Try.isAgg43 (.tmp rfl) (hB3.celln rfl)) rfl rfl rfl ?_
  refine LW.p (PEv.nilCheck (.tmp rfl)) rfl rfl rfl ?_
  refine LW.p (PEv.loadA Try.isAgg29 Try.sizeOf29 (hC.size) (.tmp rfl) (hb.agg)) rfl rfl rfl ?_
  refine LW.p (PEv.move (.tmp rfl)) rfl rfl rfl ?_
  refine LW.p (PEv.move (.tmp rfl)) rfl rfl rfl ?_
  refine LW.c (enter_call0 (.cons (.tmp rfl) (.cons (.tmp rfl) (.cons (.tmp rfl) .nil))) (Try.en28)) rfl rfl rfl rfl (lot_any _ _ _ _ _ hC hlen) ?_
  rintro _ w2 ⟨rfl, uw2⟩
  have zw2 := uw2.size
  replace hb := hb.up uw2
  replace hC := hC.up uw2
  replace hW := hW.up uw2
  replace hB3 := hB3.up uw2
  refine LW.p (PEv.move (.tmp rfl)) rfl rfl rfl ?_
  refine LW.p (PEv.extract (.tmp rfl) rfl) rfl rfl rfl ?_
  refine LW.p (PEv.extract (.tmp rfl) rfl) rfl rfl rfl ?_
  refine LW.p (PEv.assign (.tmp rfl)) rfl rfl rfl ?_
  refine LW.p (PEv.assign (.tmp rfl)) rfl rfl rfl ?_
  refine LW.nil ?_
  refine KW.then ?_
  refine CW.seq ?_
  cases hq2 : spansB f time with
  | false =>
    -- region 2
    refine CW.region ?_
    refine LW.p (PEv.loadA Try.isAgg45 Try.sizeOf45 rfl (.tmp rfl) (hB3.agg)) rfl rfl rfl ?_
    refine LW.p (PEv.move (.tmp rfl)) rfl rfl rfl ?_
    refine LW.c (enter_call0 (.cons (.tmp rfl) (.cons (.tmp rfl) .nil)) (Try.en29)) rfl rfl rfl rfl (spans_any _ _ _ _) ?_
    rintro _ w3 ⟨rfl, uw3⟩
    have zw3 := uw3.size
    replace hb := hb.up uw3
    replace hC := hC.up uw3
    replace hW := hW.up uw3
    replace hB3 := hB3.up uw3
    rw [hq2]
    refine LW.p (PEv.move (.tmp rfl)) rfl rfl rfl ?_
    refine LW.no rfl rfl rfl rfl rfl rfl rfl rfl ?_
    refine LW.no rfl rfl rfl rfl rfl rfl rfl rfl ?_
    refine LW.no rfl rfl rfl rfl rfl rfl rfl rfl ?_
    refine LW.no rfl rfl rfl rfl rfl rfl rfl rfl ?_
    refine LW.no rfl rfl rfl rfl rfl rfl rfl rfl ?_
    refine LW.no rfl rfl rfl rfl rfl rfl rfl rfl ?_
    refine LW.no rfl rfl rfl rfl rfl rfl rfl rfl ?_
    refine LW.no rfl rfl rfl rfl rfl rfl rfl rfl ?_
    refine LW.no rfl rfl rfl rfl rfl rfl rfl rfl ?_
    refine LW.no rfl rfl rfl rfl rfl rfl rfl rfl ?_
    refine LW.no rfl rfl rfl rfl rfl rfl rfl rfl ?_
    refine LW.no rfl rfl rfl rfl rfl rfl rfl rfl ?_
    refine LW.p (PEv.pick_and (b := false) (.tmp rfl) (fun hp => absurd (show false = true from hp) (by decide))) rfl rfl rfl ?_
    refine LW.p (PEv.assign (.tmp rfl)) rfl rfl rfl ?_
    refine LW.nil ?_
    refine KW.then ?_
    refine CW.ret ?_
    refine KW.ret1 rfl rfl ⟨_, rfl, ?_⟩
    exact ⟨by simp [aboutB, hq2], hW⟩
  | true =>
    -- region 2
    refine CW.region ?_
    refine LW.p (PEv.loadA Try.isAgg45 Try.sizeOf45 rfl (.tmp rfl) (hB3.agg)) rfl rfl rfl ?_
    refine LW.p (PEv.move (.tmp rfl)) rfl rfl rfl ?_
    refine LW.c (enter_call0 (.cons (.tmp rfl) (.cons (.tmp rfl) .nil)) (Try.en29)) rfl rfl rfl rfl (spans_any _ _ _ _) ?_
    rintro _ w4 ⟨rfl, uw4⟩
    have zw4 := uw4.size
    replace hb := hb.up uw4
    replace hC := hC.up uw4
    replace hW := hW.up uw4
    replace hB3 := hB3.up uw4
    rw [hq2]
    refine LW.p (PEv.move (.tmp rfl)) rfl rfl rfl ?_
    refine LW.yes rfl rfl rfl rfl rfl rfl ?_
    refine LW.p (PEv.fieldAddr (off := 0) Try.underlying45 rfl rfl Try.sizeOf23 rfl (.tmp rfl)) rfl rfl rfl ?_
    refine LW.yes rfl rfl rfl rfl rfl rfl ?_
    refine LW.p (PEv.fieldAddr (off := 7) Try.underlying23 rfl rfl Try.sizeOf3 rfl (.tmp rfl)) rfl rfl rfl ?_
    refine LW.yes rfl rfl rfl rfl rfl rfl ?_
    refine LW.p (PEv.load Try.isAgg3 (.tmp rfl) (hB3.celln rfl)) rfl rfl rfl ?_
    refine LW.yes rfl rfl rfl rfl rfl rfl ?_
    refine LW.p (PEv.move (.tmp rfl)) rfl rfl rfl ?_
    refine LW.yes rfl rfl rfl rfl rfl rfl ?_
    refine LW.p (PEv.build (cs := Cond.cells (Cond.mk f.Wafer 0 wafer)) Try.underlying62 Try.zeroValue62 Try.places62 (.cons (.tmp rfl) (.cons (.const _) (.cons (.tmp rfl) .nil))) rfl) rfl rfl rfl ?_
    refine LW.yes rfl rfl rfl rfl rfl rfl ?_
    refine LW.p (PEv.fieldAddr (off := 0) Try.underlying45 rfl rfl Try.sizeOf23 rfl (.tmp rfl)) rfl rfl rfl ?_
    refine LW.yes rfl rfl rfl rfl rfl rfl ?_
    refine LW.p (PEv.fieldAddr (off := 9) Try.underlying23 rfl rfl Try.sizeOf3 rfl (.tmp rfl)) rfl rfl rfl ?_
    refine LW.yes rfl rfl rfl rfl rfl rfl ?_
    refine LW.p (PEv.load Try.isAgg3 (.tmp rfl) (hB3.celln rfl)) rfl rfl rfl ?_
    refine LW.yes rfl rfl rfl rfl rfl rfl ?_
    refine LW.p (PEv.move (.tmp rfl)) rfl rfl rfl ?_
    refine LW.yes rfl rfl rfl rfl rfl rfl ?_
    refine LW.p (PEv.build (cs := Cond.cells (Cond.mk f.Lot 0 (lotOf b.Lots wafer time).1)) Try.underlying62 Try.zeroValue62 Try.places62 (.cons (.tmp rfl) (.cons (.const _) (.cons (.tmp rfl) .nil))) rfl) rfl rfl rfl ?_
    refine LW.yes rfl rfl rfl rfl rfl rfl ?_
    refine LW.r (REv.buildSlice (xs := [Cond.mk f.Wafer 0 wafer, Cond.mk f.Lot 0 (lotOf b.Lots wafer time).1]) (enc := Cond.cells) (mk := fun c => .agg c.cells) Try.underlying64 Try.sizeOf62 Try.zeroValue62 rfl (by decide) (fun _ => rfl) (fun _ => rfl) (.cons (.tmp rfl) (.cons (.tmp rfl) .nil)) rfl) rfl rfl rfl rfl ?_
    rintro _ w5 ⟨B33, cB33, rfl, NB33, yB33, xB33⟩
    have eB33 := NB33.at_
    have zB33 := NB33.size
    replace hb := hb.up NB33.up
    replace hC := hC.up NB33.up
    replace hW := hW.up NB33.up
    replace hB3 := hB3.up NB33.up
    have hB33 := NB33.blk
    have hE33 := xB33
    refine LW.yes rfl rfl rfl rfl rfl rfl ?_
    refine LW.c (enter_call0 (.cons (.tmp rfl) .nil) (Try.en23)) rfl rfl rfl rfl (areMet_any _ _ _ (Sl.of_els hE33) (by simp)) ?_
    rintro _ w6 ⟨rfl, uw6⟩
    have zw6 := uw6.size
    replace hb := hb.up uw6
    replace hC := hC.up uw6
    replace hW := hW.up uw6
    replace hB3 := hB3.up uw6
    replace hB33 := hB33.up uw6
    replace hE33 := hE33.up uw6
    refine LW.p (PEv.pick_and (.tmp rfl) (fun hp => (by first | exact .const _ | exact .tmp rfl | exact .cond rfl (by first | assumption | simp_all)))) rfl rfl rfl ?_
    refine LW.p (PEv.assign (.tmp rfl)) rfl rfl rfl ?_
    refine LW.nil ?_
    refine KW.then ?_
    refine CW.ret ?_
    refine KW.ret1 rfl rfl ⟨_, rfl, ?_⟩
    exact ⟨by simp [aboutB, hq2], hW⟩

theorem names_any (f : Fact) (Bb : Nat) (bc : Array Go.Value) (b : Base) (a : GAct) (w : World) (hb : Blk w Bb bc 29) (hC : BaseC w bc b) (hlen : b.Lots.length < 9223372036854775807) : Ret Try.prog 15 #[.agg (holdCells f ⟨Bb, 0, none⟩), .agg a.cells] w fun r w' => r = .bool (namesB f b.Lots a) ∧ Up w w' := by
  have hW := Up.refl w
  refine Calls_start (n := 45) (m := 9) Try.func15 rfl rfl rfl ?_
  refine CW.seq ?_
  -- region 0
  refine CW.region ?_
  refine LW.r (REv.boxA (.tmp rfl)) rfl rfl rfl rfl ?_
  rintro _ w1 ⟨B2, rfl, NB2⟩
  have eB2 := NB2.at_
  have zB2 := NB2.size
  replace hb := hb.up NB2.up
  replace hC := hC.up NB2.up
  replace hW := hW.up NB2.up
  have hB2 := NB2.blk
  refine LW.r (REv.boxA (.tmp rfl)) rfl rfl rfl rfl ?_
  rintro _ w2 ⟨B3, rfl, NB3⟩
  have eB3 := NB3.at_
  have zB3 := NB3.size
  replace hb := hb.up NB3.up
  replace hC := hC.up NB3.up
  replace hW := hW.up NB3.up
  replace hB2 := hB2.up NB3.up
  have hB3 := NB3.blk
  refine LW.p (PEv.assign (.const _)) rfl rfl rfl ?_
  refine LW.nil ?_
  refine KW.then ?_
  refine CW.seq ?_
  cases hq1 : aboutB f b.Lots a.Wafer a.Time with
  | false =>
    -- region 1
    refine CW.region ?_
    refine LW.p (PEv.loadA Try.isAgg45 Try.sizeOf45 rfl (.tmp rfl) (hB2.agg)) rfl rfl rfl ?_
    refine LW.p (PEv.fieldAddr (off := 0) Try.underlying25 rfl rfl Try.sizeOf3 rfl (.tmp rfl)) rfl rfl rfl ?_
    refine LW.p (PEv.load Try.isAgg3 (.tmp rfl) (hB3.celln rfl)) rfl rfl rfl ?_
    refine LW.p (PEv.fieldAddr (off := 6) Try.underlying25 rfl rfl Try.sizeOf3 rfl (.tmp rfl)) rfl rfl rfl ?_
    refine LW.p (PEv.load Try.isAgg3 (.tmp rfl) (hB3.celln rfl)) rfl rfl rfl ?_
    refine LW.c (enter_call0 (.cons (.tmp rfl) (.cons (.tmp rfl) (.cons (.tmp rfl) .nil))) (Try.en22)) rfl rfl rfl rfl (isAbout_any _ _ _ _ _ _ _ hb hC hlen) ?_
    rintro _ w3 ⟨rfl, uw3⟩
    have zw3 := uw3.size
    replace hb := hb.up uw3
    replace hC := hC.up uw3
    replace hW := hW.up uw3
    replace hB2 := hB2.up uw3
    replace hB3 := hB3.up uw3
    rw [hq1]
    refine LW.p (PEv.move (.tmp rfl)) rfl rfl rfl ?_
    refine LW.no rfl rfl rfl rfl rfl rfl rfl rfl ?_
    refine LW.no rfl rfl rfl rfl rfl rfl rfl rfl ?_
    refine LW.no rfl rfl rfl rfl rfl rfl rfl rfl ?_
    refine LW.no rfl rfl rfl rfl rfl rfl rfl rfl ?_
    refine LW.no rfl rfl rfl rfl rfl rfl rfl rfl ?_
    refine LW.no rfl rfl rfl rfl rfl rfl rfl rfl ?_
    refine LW.no rfl rfl rfl rfl rfl rfl rfl rfl ?_
    refine LW.no rfl rfl rfl rfl rfl rfl rfl rfl ?_
    refine LW.no rfl rfl rfl rfl rfl rfl rfl rfl ?_
    refine LW.no rfl rfl rfl rfl rfl rfl rfl rfl ?_
    refine LW.no rfl rfl rfl rfl rfl rfl rfl rfl ?_
    refine LW.no rfl rfl rfl rfl rfl rfl rfl rfl ?_
    refine LW.no rfl rfl rfl rfl rfl rfl rfl rfl ?_
    refine LW.no rfl rfl rfl rfl rfl rfl rfl rfl ?_
    refine LW.no rfl rfl rfl rfl rfl rfl rfl rfl ?_
    refine LW.no rfl rfl rfl rfl rfl rfl rfl rfl ?_
    refine LW.no rfl rfl rfl rfl rfl rfl rfl rfl ?_
    refine LW.no rfl rfl rfl rfl rfl rfl rfl rfl ?_
    refine LW.no rfl rfl rfl rfl rfl rfl rfl rfl ?_
    refine LW.no rfl rfl rfl rfl rfl rfl rfl rfl ?_
    refine LW.no rfl rfl rfl rfl rfl rfl rfl rfl ?_
    refine LW.no rfl rfl rfl rfl rfl rfl rfl rfl ?_
    refine LW.no rfl rfl rfl rfl rfl rfl rfl rfl ?_
    refine LW.no rfl rfl rfl rfl rfl rfl rfl rfl ?_
    refine LW.no rfl rfl rfl rfl rfl rfl rfl rfl ?_
    refine LW.no rfl rfl rfl rfl rfl rfl rfl rfl ?_
    refine LW.no rfl rfl rfl rfl rfl rfl rfl rfl ?_
    refine LW.no rfl rfl rfl rfl rfl rfl rfl rfl ?_
    refine LW.no rfl rfl rfl rfl rfl rfl rfl rfl ?_
    refine LW.no rfl rfl rfl rfl rfl rfl rfl rfl ?_
    refine LW.no rfl rfl rfl rfl rfl rfl rfl rfl ?_
    refine LW.no rfl rfl rfl rfl rfl rfl rfl rfl ?_
    refine LW.p (PEv.pick_and (b := false) (.tmp rfl) (fun hp => absurd (show false = true from hp) (by decide))) rfl rfl rfl ?_
    refine LW.p (PEv.assign (.tmp rfl)) rfl rfl rfl ?_
    refine LW.nil ?_
    refine KW.then ?_
    refine CW.ret ?_
    refine KW.ret1 rfl rfl ⟨_, rfl, ?_⟩
    exact ⟨by simp [namesB, hq1], hW⟩
  | true =>
    -- region 1
    refine CW.region ?_
    refine LW.p (PEv.loadA Try.isAgg45 Try.sizeOf45 rfl (.tmp rfl) (hB2.agg)) rfl rfl rfl ?_
    refine LW.p (PEv.fieldAddr (off := 0) Try.underlying25 rfl rfl Try.sizeOf3 rfl (.tmp rfl)) rfl rfl rfl ?_
    refine LW.p (PEv.load Try.isAgg3 (.tmp rfl) (hB3.celln rfl)) rfl rfl rfl ?_
    refine LW.p (PEv.fieldAddr (off := 6) Try.underlying25 rfl rfl Try.sizeOf3 rfl (.tmp rfl)) rfl rfl rfl ?_
    refine LW.p (PEv.load Try.isAgg3 (.tmp rfl) (hB3.celln rfl)) rfl rfl rfl ?_
    refine LW.c (enter_call0 (.cons (.tmp rfl) (.cons (.tmp rfl) (.cons (.tmp rfl) .nil))) (Try.en22)) rfl rfl rfl rfl (isAbout_any _ _ _ _ _ _ _ hb hC hlen) ?_
    rintro _ w4 ⟨rfl, uw4⟩
    have zw4 := uw4.size
    replace hb := hb.up uw4
    replace hC := hC.up uw4
    replace hW := hW.up uw4
    replace hB2 := hB2.up uw4
    replace hB3 := hB3.up uw4
    rw [hq1]
    refine LW.p (PEv.move (.tmp rfl)) rfl rfl rfl ?_
    refine LW.yes rfl rfl rfl rfl rfl rfl ?_
    refine LW.p (PEv.fieldAddr (off := 0) Try.underlying45 rfl rfl Try.sizeOf23 rfl (.tmp rfl)) rfl rfl rfl ?_
    refine LW.yes rfl rfl rfl rfl rfl rfl ?_
    refine LW.p (PEv.fieldAddr (off := 11) Try.underlying23 rfl rfl Try.sizeOf3 rfl (.tmp rfl)) rfl rfl rfl ?_
    refine LW.yes rfl rfl rfl rfl rfl rfl ?_
    refine LW.p (PEv.load Try.isAgg3 (.tmp rfl) (hB2.celln rfl)) rfl rfl rfl ?_
    refine LW.yes rfl rfl rfl rfl rfl rfl ?_
    refine LW.p (PEv.fieldAddr (off := 2) Try.underlying25 rfl rfl Try.sizeOf3 rfl (.tmp rfl)) rfl rfl rfl ?_
    refine LW.yes rfl rfl rfl rfl rfl rfl ?_
    refine LW.p (PEv.load Try.isAgg3 (.tmp rfl) (hB3.celln rfl)) rfl rfl rfl ?_
    refine LW.yes rfl rfl rfl rfl rfl rfl ?_
    refine LW.p (PEv.build (cs := Cond.cells (Cond.mk f.Tool 1 a.Tool)) Try.underlying62 Try.zeroValue62 Try.places62 (.cons (.tmp rfl) (.cons (.const _) (.cons (.tmp rfl) .nil))) rfl) rfl rfl rfl ?_
    refine LW.yes rfl rfl rfl rfl rfl rfl ?_
    refine LW.p (PEv.fieldAddr (off := 0) Try.underlying45 rfl rfl Try.sizeOf23 rfl (.tmp rfl)) rfl rfl rfl ?_
    refine LW.yes rfl rfl rfl rfl rfl rfl ?_
    refine LW.p (PEv.fieldAddr (off := 12) Try.underlying23 rfl rfl Try.sizeOf3 rfl (.tmp rfl)) rfl rfl rfl ?_
    refine LW.yes rfl rfl rfl rfl rfl rfl ?_
    refine LW.p (PEv.load Try.isAgg3 (.tmp rfl) (hB2.celln rfl)) rfl rfl rfl ?_
    refine LW.yes rfl rfl rfl rfl rfl rfl ?_
    refine LW.p (PEv.fieldAddr (off := 3) Try.underlying25 rfl rfl Try.sizeOf3 rfl (.tmp rfl)) rfl rfl rfl ?_
    refine LW.yes rfl rfl rfl rfl rfl rfl ?_
    refine LW.p (PEv.load Try.isAgg3 (.tmp rfl) (hB3.celln rfl)) rfl rfl rfl ?_
    refine LW.yes rfl rfl rfl rfl rfl rfl ?_
    refine LW.p (PEv.build (cs := Cond.cells (Cond.mk f.Chamber 1 a.Chamber)) Try.underlying62 Try.zeroValue62 Try.places62 (.cons (.tmp rfl) (.cons (.const _) (.cons (.tmp rfl) .nil))) rfl) rfl rfl rfl ?_
    refine LW.yes rfl rfl rfl rfl rfl rfl ?_
    refine LW.p (PEv.fieldAddr (off := 0) Try.underlying45 rfl rfl Try.sizeOf23 rfl (.tmp rfl)) rfl rfl rfl ?_
    refine LW.yes rfl rfl rfl rfl rfl rfl ?_
    refine LW.p (PEv.fieldAddr (off := 13) Try.underlying23 rfl rfl Try.sizeOf3 rfl (.tmp rfl)) rfl rfl rfl ?_
    refine LW.yes rfl rfl rfl rfl rfl rfl ?_
    refine LW.p (PEv.load Try.isAgg3 (.tmp rfl) (hB2.celln rfl)) rfl rfl rfl ?_
    refine LW.yes rfl rfl rfl rfl rfl rfl ?_
    refine LW.p (PEv.fieldAddr (off := 1) Try.underlying25 rfl rfl Try.sizeOf3 rfl (.tmp rfl)) rfl rfl rfl ?_
    refine LW.yes rfl rfl rfl rfl rfl rfl ?_
    refine LW.p (PEv.load Try.isAgg3 (.tmp rfl) (hB3.celln rfl)) rfl rfl rfl ?_
    refine LW.yes rfl rfl rfl rfl rfl rfl ?_
    refine LW.p (PEv.build (cs := Cond.cells (Cond.mk f.Step 1 a.Step)) Try.underlying62 Try.zeroValue62 Try.places62 (.cons (.tmp rfl) (.cons (.const _) (.cons (.tmp rfl) .nil))) rfl) rfl rfl rfl ?_
    refine LW.yes rfl rfl rfl rfl rfl rfl ?_
    refine LW.p (PEv.fieldAddr (off := 0) Try.underlying45 rfl rfl Try.sizeOf23 rfl (.tmp rfl)) rfl rfl rfl ?_
    refine LW.yes rfl rfl rfl rfl rfl rfl ?_
    refine LW.p (PEv.fieldAddr (off := 14) Try.underlying23 rfl rfl Try.sizeOf3 rfl (.tmp rfl)) rfl rfl rfl ?_
    refine LW.yes rfl rfl rfl rfl rfl rfl ?_
    refine LW.p (PEv.load Try.isAgg3 (.tmp rfl) (hB2.celln rfl)) rfl rfl rfl ?_
    refine LW.yes rfl rfl rfl rfl rfl rfl ?_
    refine LW.p (PEv.fieldAddr (off := 4) Try.underlying25 rfl rfl Try.sizeOf3 rfl (.tmp rfl)) rfl rfl rfl ?_
    refine LW.yes rfl rfl rfl rfl rfl rfl ?_
    refine LW.p (PEv.load Try.isAgg3 (.tmp rfl) (hB3.celln rfl)) rfl rfl rfl ?_
    refine LW.yes rfl rfl rfl rfl rfl rfl ?_
    refine LW.p (PEv.build (cs := Cond.cells (Cond.mk f.Recipe 0 a.Recipe)) Try.underlying62 Try.zeroValue62 Try.places62 (.cons (.tmp rfl) (.cons (.const _) (.cons (.tmp rfl) .nil))) rfl) rfl rfl rfl ?_
    refine LW.yes rfl rfl rfl rfl rfl rfl ?_
    refine LW.p (PEv.fieldAddr (off := 0) Try.underlying45 rfl rfl Try.sizeOf23 rfl (.tmp rfl)) rfl rfl rfl ?_
    refine LW.yes rfl rfl rfl rfl rfl rfl ?_
    refine LW.p (PEv.fieldAddr (off := 15) Try.underlying23 rfl rfl Try.sizeOf3 rfl (.tmp rfl)) rfl rfl rfl ?_
    refine LW.yes rfl rfl rfl rfl rfl rfl ?_
    refine LW.p (PEv.load Try.isAgg3 (.tmp rfl) (hB2.celln rfl)) rfl rfl rfl ?_
    refine LW.yes rfl rfl rfl rfl rfl rfl ?_
    refine LW.p (PEv.fieldAddr (off := 5) Try.underlying25 rfl rfl Try.sizeOf3 rfl (.tmp rfl)) rfl rfl rfl ?_
    refine LW.yes rfl rfl rfl rfl rfl rfl ?_
    refine LW.p (PEv.load Try.isAgg3 (.tmp rfl) (hB3.celln rfl)) rfl rfl rfl ?_
    refine LW.yes rfl rfl rfl rfl rfl rfl ?_
    refine LW.p (PEv.build (cs := Cond.cells (Cond.mk f.Revision 0 a.Revision)) Try.underlying62 Try.zeroValue62 Try.places62 (.cons (.tmp rfl) (.cons (.const _) (.cons (.tmp rfl) .nil))) rfl) rfl rfl rfl ?_
    refine LW.yes rfl rfl rfl rfl rfl rfl ?_
    refine LW.r (REv.buildSlice (xs := [Cond.mk f.Tool 1 a.Tool, Cond.mk f.Chamber 1 a.Chamber, Cond.mk f.Step 1 a.Step, Cond.mk f.Recipe 0 a.Recipe, Cond.mk f.Revision 0 a.Revision]) (enc := Cond.cells) (mk := fun c => .agg c.cells) Try.underlying64 Try.sizeOf62 Try.zeroValue62 rfl (by decide) (fun _ => rfl) (fun _ => rfl) (.cons (.tmp rfl) (.cons (.tmp rfl) (.cons (.tmp rfl) (.cons (.tmp rfl) (.cons (.tmp rfl) .nil))))) rfl) rfl rfl rfl rfl ?_
    rintro _ w5 ⟨B42, cB42, rfl, NB42, yB42, xB42⟩
    have eB42 := NB42.at_
    have zB42 := NB42.size
    replace hb := hb.up NB42.up
    replace hC := hC.up NB42.up
    replace hW := hW.up NB42.up
    replace hB2 := hB2.up NB42.up
    replace hB3 := hB3.up NB42.up
    have hB42 := NB42.blk
    have hE42 := xB42
    refine LW.yes rfl rfl rfl rfl rfl rfl ?_
    refine LW.c (enter_call0 (.cons (.tmp rfl) .nil) (Try.en23)) rfl rfl rfl rfl (areMet_any _ _ _ (Sl.of_els hE42) (by simp)) ?_
    rintro _ w6 ⟨rfl, uw6⟩
    have zw6 := uw6.size
    replace hb := hb.up uw6
    replace hC := hC.up uw6
    replace hW := hW.up uw6
    replace hB2 := hB2.up uw6
    replace hB3 := hB3.up uw6
    replace hB42 := hB42.up uw6
    replace hE42 := hE42.up uw6
    refine LW.p (PEv.pick_and (.tmp rfl) (fun hp => (by first | exact .const _ | exact .tmp rfl | exact .cond rfl (by first | assumption | simp_all)))) rfl rfl rfl ?_
    refine LW.p (PEv.assign (.tmp rfl)) rfl rfl rfl ?_
    refine LW.nil ?_
    refine KW.then ?_
    refine CW.ret ?_
    refine KW.ret1 rfl rfl ⟨_, rfl, ?_⟩
    exact ⟨by simp [namesB, hq1], hW⟩

theorem Names_any (bc : Array Go.Value) (b : Base) (f : Fact) (a : GAct) (w : World) (hC : BaseC w bc b) (hlen : b.Lots.length < 9223372036854775807) : Ret Try.prog 6 #[.agg bc, .agg f.cells, .agg a.cells] w fun r w' => r = .bool (namesB f b.Lots a) ∧ Up w w' := by
  have hW := Up.refl w
  refine Calls_start (n := 11) (m := 9) Try.func6 rfl rfl rfl ?_
  refine CW.seq ?_
  -- region 0
  refine CW.region ?_
  refine LW.r (REv.boxA (.tmp rfl)) rfl rfl rfl rfl ?_
  rintro _ w1 ⟨B3, rfl, NB3⟩
  have eB3 := NB3.at_
  have zB3 := NB3.size
  replace hC := hC.up NB3.up
  replace hW := hW.up NB3.up
  have hB3 := NB3.blk
  refine LW.r (REv.boxA (.tmp rfl)) rfl rfl rfl rfl ?_
  rintro _ w2 ⟨B4, rfl, NB4⟩
  have eB4 := NB4.at_
  have zB4 := NB4.size
  replace hC := hC.up NB4.up
  replace hW := hW.up NB4.up
  replace hB3 := hB3.up NB4.up
  have hB4 := NB4.blk
  refine LW.r (REv.boxA (.tmp rfl)) rfl rfl rfl rfl ?_
  rintro _ w3 ⟨B5, rfl, NB5⟩
  have eB5 := NB5.at_
  have zB5 := NB5.size
  replace hC := hC.up NB5.up
  replace hW := hW.up NB5.up
  replace hB3 := hB3.up NB5.up
  replace hB4 := hB4.up NB5.up
  have hB5 := NB5.blk
  refine LW.p (PEv.assign (.const _)) rfl rfl rfl ?_
  refine LW.nil ?_
  refine KW.then ?_
  refine CW.seq ?_
  -- region 1
  refine CW.region ?_
  refine LW.p (PEv.loadA Try.isAgg23 Try.sizeOf23 rfl (.tmp rfl) (hB4.agg)) rfl rfl rfl ?_
  refine LW.p (PEv.build (cs := holdCells f ⟨B3, 0, none⟩) Try.underlying45 Try.zeroValue45 Try.places45 (.cons (.tmp rfl) (.cons (.tmp rfl) .nil)) (fill_hold _ _ rfl)) rfl rfl rfl ?_
  refine LW.p (PEv.loadA Try.isAgg25 Try.sizeOf25 rfl (.tmp rfl) (hB5.agg)) rfl rfl rfl ?_
  refine LW.c (enter_call0 (.cons (.tmp rfl) (.cons (.tmp rfl) .nil)) (Try.en15)) rfl rfl rfl rfl (names_any _ _ _ _ _ _ hB3 hC hlen) ?_
  rintro _ w4 ⟨rfl, uw4⟩
  have zw4 := uw4.size
  replace hC := hC.up uw4
  replace hW := hW.up uw4
  replace hB3 := hB3.up uw4
  replace hB4 := hB4.up uw4
  replace hB5 := hB5.up uw4
  refine LW.p (PEv.assign (.tmp rfl)) rfl rfl rfl ?_
  refine LW.nil ?_
  refine KW.then ?_
  refine CW.ret ?_
  refine KW.ret1 rfl rfl ⟨_, rfl, ?_⟩
  exact ⟨rfl, hW⟩

end Go.Proofs.Ytdkfjllchhoojaa
