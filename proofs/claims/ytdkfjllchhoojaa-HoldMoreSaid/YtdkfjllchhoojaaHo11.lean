import Derived.Test.YtdkfjllchhoojaaHo10
import Derived.Test.YtdkfjllchhoojaaWt
namespace Go.Wx

theorem fewL_length (l : List Fact) : (fewL l).length ≤ 40 := by unfold fewL; rw [List.length_map, List.length_take]; omega
theorem any_mem {l : List Int} {x : Int} (h : x ∈ l) : (l.any fun y => decide (y = x)) = true := List.any_eq_true.2 ⟨x, h, by simp⟩
theorem stopsOf_length (b : Base) (a : GAct) : (stopsOf b a).length ≤ b.Holds.length := by
  unfold stopsOf
  rw [List.length_mergeSort]
  exact Nat.le_trans (stopKs_length _ _ _) (List.length_filter_le _ _)
theorem mem_setAdd {ks : List Int} {k x : Int} : x ∈ setAdd ks k ↔ x ∈ ks ∨ x = k := by
  unfold setAdd
  split
  · exact ⟨.inl, fun h => h.elim id (fun e => by subst e; assumption)⟩
  · simp
theorem mem_stopKs_aux (b : Base) (a : GAct) (x : Int) : ∀ (l : List Fact) (ks : List Int), x ∈ l.foldl (stopStep b a) ks ↔ x ∈ ks ∨ ∃ f ∈ l, stopB b a f = true ∧ f.ID = x
  | [], ks => by simp
  | f :: l, ks => by
    rw [List.foldl_cons, mem_stopKs_aux b a x l]
    unfold stopStep
    by_cases h : stopB b a f = true
    · rw [if_pos h, mem_setAdd]
      constructor
      · rintro ((h1 | h1) | ⟨g, h1, h2⟩)
        · exact .inl h1
        · exact .inr ⟨f, by simp, h, h1.symm⟩
        · exact .inr ⟨g, by simp [h1], h2⟩
      · rintro (h1 | ⟨g, h1, h2, h3⟩)
        · exact .inl (.inl h1)
        · rcases List.mem_cons.1 h1 with e | e
          · subst e; exact .inl (.inr h3.symm)
          · exact .inr ⟨g, e, h2, h3⟩
    · rw [if_neg h]
      constructor
      · rintro (h1 | ⟨g, h1, h2⟩)
        · exact .inl h1
        · exact .inr ⟨g, by simp [h1], h2⟩
      · rintro (h1 | ⟨g, h1, h2, h3⟩)
        · exact .inl h1
        · rcases List.mem_cons.1 h1 with e | e
          · subst e; exact absurd h2 h
          · exact .inr ⟨g, e, h2, h3⟩
theorem mem_stops {b : Base} {a : GAct} {x : Int} : x ∈ stopsOf b a ↔ ∃ f ∈ b.Holds, isHoldB f = true ∧ stopB b a f = true ∧ f.ID = x := by
  unfold stopsOf
  rw [List.mem_mergeSort, stopKs, mem_stopKs_aux]
  simp [List.mem_filter, and_assoc]
theorem more_mem (l : List Fact) (a : GAct) (h : Fact) : ∀ x ∈ stopsOf (rawB l) a, x ∈ stopsOf { rawB l with Holds := (rawB l).Holds ++ [h] } a := by
  intro x hx
  obtain ⟨f, h1, h2, h3, h4⟩ := mem_stops.1 hx
  exact mem_stops.2 ⟨f, List.mem_append_left _ h1, h2, h3, h4⟩
theorem more_length (l : List Fact) (a : GAct) (h : Fact) : (stopsOf { rawB l with Holds := (rawB l).Holds ++ [h] } a).length ≤ (stopsOf (rawB l) a).length + 1 := by
  unfold stopsOf
  rw [List.length_mergeSort, List.length_mergeSort]
  have e : ∀ (xs : List Fact), stopKs { rawB l with Holds := (rawB l).Holds ++ [h] } a xs = stopKs (rawB l) a xs := fun _ => rfl
  rw [e, List.filter_append]
  unfold stopKs
  rw [List.foldl_append]
  by_cases hh : isHoldB h = true
  · rw [show [h].filter isHoldB = [h] by simp [hh]]
    rw [List.foldl_cons, List.foldl_nil]
    unfold stopStep
    split
    · exact setAdd_length _ _
    · omega
  · rw [show [h].filter isHoldB = [] by simp [hh]]
    simp
theorem bits_or {p x y : BitVec 64} (h : p &&& ~~~x = 0#64) : p &&& ~~~(x ||| y) = 0#64 := by
  have e : p &&& ~~~(x ||| y) = (p &&& ~~~x) &&& ~~~y := by
    ext i hi
    simp only [BitVec.getElem_and, BitVec.getElem_not, BitVec.getElem_or]
    cases p[i] <;> cases x[i] <;> cases y[i] <;> rfl
  rw [e, h]; simp
theorem wrap_nat {b : BitVec 64} : IntKind.i64.wrap (b.toNat : Int) = b.toInt := by
  rw [IntKind.wrap_i64]
  have := b.isLt
  rw [BitVec.toInt_eq_toNat_cond]
  split <;> omega
theorem andNotI_zero {x y : Int} : andNotI x y = 0 ↔ BitVec.ofInt 64 x &&& ~~~BitVec.ofInt 64 y = 0#64 := by
  unfold andNotI
  rw [wrap_nat]
  constructor
  · intro h
    exact BitVec.eq_of_toInt_eq (by rw [h]; simp)
  · intro h
    rw [h]; simp
theorem ofInt_orI (x y : Int) : BitVec.ofInt 64 (orI x y) = BitVec.ofInt 64 x ||| BitVec.ofInt 64 y := by
  unfold orI
  rw [wrap_nat, BitVec.ofInt_toInt]
theorem over_more {f : Fact} {l : List Fact} {r : Fact} {t : Int} (h : overB f l t = true) : overB f (l ++ [r]) t = true := by
  unfold overB at h ⊢
  have h1 := andNotI_zero.1 (of_decide_eq_true h)
  refine decide_eq_true (andNotI_zero.2 ?_)
  rw [partiesOf_snoc]
  unfold relStep
  split
  · rw [ofInt_orI]; exact bits_or h1
  · exact h1
theorem less_mem (l : List Fact) (a : GAct) (r : Fact) : ∀ x ∈ stopsOf { rawB l with Releases := (rawB l).Releases ++ [r] } a, x ∈ stopsOf (rawB l) a := by
  intro x hx
  obtain ⟨f, h1, h2, h3, h4⟩ := mem_stops.1 hx
  refine mem_stops.2 ⟨f, h1, h2, ?_, h4⟩
  unfold stopB at h3 ⊢
  rw [Bool.and_eq_true] at h3 ⊢
  refine ⟨h3.1, ?_⟩
  cases ho : overB f (rawB l).Releases a.Time with
  | false => rfl
  | true =>
    have := over_more (r := r) ho
    rw [show overB f ({ rawB l with Releases := (rawB l).Releases ++ [r] } : Base).Releases a.Time = true from this] at h3
    simp at h3

end Go.Wx
namespace Go.Proofs.Ytdkfjllchhoojaa
open Go.Wx Go.RowKit
theorem Stops_ex (bc : Array Go.Value) (b : Base) (a : GAct) (w : World) (hC : BaseC w bc b) (hH : b.Holds.length ≤ 1000000000) (hR : b.Releases.length < 9223372036854775807) (hL : b.Lots.length < 9223372036854775807) :
    Ret Try.prog 10 #[.agg bc, .agg a.cells] w fun r w' => ∃ xs ad cp, xs = stopsOf b a ∧ r = .slice ad xs.length cp ∧ Els w' ad 1 eInt xs ∧ Up w w' :=
  (Stops_any bc b a w hC hH hR hL).mono fun r w' ⟨hO, hU⟩ => by
    obtain ⟨ad, cp, rfl, hE⟩ := hO.sl (fun _ => rfl)
    exact ⟨_, ad, cp, rfl, rfl, hE, hU⟩

set_option maxHeartbeats 4000000 in
theorem HoldMore_any (ad : Option Addr) (cp : Nat) (l : List Fact) (a : GAct) (h r : Fact) (w : World) (hE : Els w ad 19 Fact.cells l) : Ret Try.prog 4 #[.slice ad l.length cp, .agg a.cells, .agg h.cells, .agg r.cells] w fun r w' => r = .bool true ∧ Up w w' := by
  have hW := Up.refl w
  obtain ⟨w0, rfl⟩ : ∃ w0, w0 = w := ⟨_, rfl⟩
  refine Calls_start (n := 86) (m := 9) Try.func4 rfl rfl rfl ?_
  refine CW.seq ?_
  -- region 0
  refine CW.region ?_
  refine LW.r (REv.boxA (.tmp rfl)) rfl rfl rfl rfl ?_
  rintro _ w1 ⟨B5, rfl, NB5⟩
  have eB5 := NB5.at_
  have zB5 := NB5.size
  replace hE := hE.up NB5.up
  replace hW := hW.up NB5.up
  have hB5 := NB5.blk
  refine LW.r (REv.boxA (.tmp rfl)) rfl rfl rfl rfl ?_
  rintro _ w2 ⟨B6, rfl, NB6⟩
  have eB6 := NB6.at_
  have zB6 := NB6.size
  replace hE := hE.up NB6.up
  replace hW := hW.up NB6.up
  replace hB5 := hB5.up NB6.up
  have hB6 := NB6.blk
  refine LW.r (REv.boxA (.tmp rfl)) rfl rfl rfl rfl ?_
  rintro _ w3 ⟨B7, rfl, NB7⟩
  have eB7 := NB7.at_
  have zB7 := NB7.size
  replace hE := hE.up NB7.up
  replace hW := hW.up NB7.up
  replace hB5 := hB5.up NB7.up
  replace hB6 := hB6.up NB7.up
  have hB7 := NB7.blk
  refine LW.p (PEv.assign (.const _)) rfl rfl rfl ?_
  refine LW.nil ?_
  refine KW.then ?_
  refine CW.seq ?_
  -- region 1
  refine CW.region ?_
  refine LW.c (enter_call0 .nil (Try.en5)) rfl rfl rfl rfl (sane_any _) ?_
  rintro _ w4 ⟨rfl, uw4⟩
  have zw4 := uw4.size
  replace hE := hE.up uw4
  replace hW := hW.up uw4
  replace hB5 := hB5.up uw4
  replace hB6 := hB6.up uw4
  replace hB7 := hB7.up uw4
  refine LW.p (PEv.assign (.tmp rfl)) rfl rfl rfl ?_
  refine LW.nil ?_
  refine KW.then ?_
  refine CW.seq ?_
  -- region 2
  refine CW.region ?_
  refine LW.p (PEv.move (.tmp rfl)) rfl rfl rfl ?_
  refine LW.c (enter_call0 (.cons (.tmp rfl) .nil) (Try.en9)) rfl rfl rfl rfl (few_any _ _ _ _ hE) ?_
  rintro v20 w5 ⟨hO20, uw5⟩
  have zw5 := uw5.size
  replace hE := hE.up uw5
  replace hW := hW.up uw5
  replace hB5 := hB5.up uw5
  replace hB6 := hB6.up uw5
  replace hB7 := hB7.up uw5
  obtain ⟨ad2, cp2, rfl, hEb⟩ := hO20.sl (fun _ => rfl)
  refine LW.c (enter_call0 (.cons (.tmp rfl) .nil) (Try.en8)) rfl rfl rfl rfl (raw_any _ _ _ _) ?_
  rintro _ w6 ⟨rfl, uw6⟩
  have zw6 := uw6.size
  replace hE := hE.up uw6
  replace hW := hW.up uw6
  replace hB5 := hB5.up uw6
  replace hB6 := hB6.up uw6
  replace hB7 := hB7.up uw6
  replace hO20 := hO20.up uw6
  refine LW.r (REv.allocA Try.zeroValue29) rfl rfl rfl rfl ?_
  rintro _ w7 ⟨B10, rfl, MB10⟩
  refine LW.s (SEv.storeA Try.sizeOf29 rfl (.tmp rfl) (.tmp rfl) (rawCells_one _ _ _) MB10.blk rfl) rfl rfl rfl ?_
  intro w8 LB10
  have NB10 := MB10.set LB10
  clear LB10 MB10
  have eB10 := NB10.at_
  have zB10 := NB10.size
  replace hE := hE.up NB10.up
  replace hW := hW.up NB10.up
  replace hB5 := hB5.up NB10.up
  replace hB6 := hB6.up NB10.up
  replace hB7 := hB7.up NB10.up
  replace hO20 := hO20.up NB10.up
  have hB10 := NB10.blk
  refine LW.nil ?_
  refine KW.then ?_
  refine CW.seq ?_
  -- region 3
  refine CW.region ?_
  refine LW.p (PEv.fieldAddr (off := 0) Try.underlying23 rfl rfl Try.sizeOf3 rfl (.tmp rfl)) rfl rfl rfl ?_
  refine LW.s (SEv.store Try.sizeOf3 (.tmp rfl) (.const _) rfl hB6 (Nat.le_of_ble_eq_true rfl)) rfl rfl rfl ?_
  intro w9 Nw9
  have zw9 := Nw9.size
  replace hW := hW.sto Nw9.sto (by omega)
  replace hB5 := hB5.sto Nw9.sto (by omega)
  replace hB7 := hB7.sto Nw9.sto (by omega)
  replace hO20 := hO20.sto Nw9.sto (by omega)
  replace hB10 := hB10.sto Nw9.sto (by omega)
  replace hB6 := Nw9.blk
  replace hB6 : Blk w9 B6 ({ h with Kind := 7 } : Fact).cells _ := hB6
  refine LW.nil ?_
  refine KW.then ?_
  refine CW.seq ?_
  -- region 4
  refine CW.region ?_
  refine LW.p (PEv.fieldAddr (off := 0) Try.underlying23 rfl rfl Try.sizeOf3 rfl (.tmp rfl)) rfl rfl rfl ?_
  refine LW.s (SEv.store Try.sizeOf3 (.tmp rfl) (.const _) rfl hB7 (Nat.le_of_ble_eq_true rfl)) rfl rfl rfl ?_
  intro w10 Nw10
  have zw10 := Nw10.size
  replace hW := hW.sto Nw10.sto (by omega)
  replace hB5 := hB5.sto Nw10.sto (by omega)
  replace hB6 := hB6.sto Nw10.sto (by omega)
  replace hO20 := hO20.sto Nw10.sto (by omega)
  replace hB10 := hB10.sto Nw10.sto (by omega)
  replace hB7 := Nw10.blk
  replace hB7 : Blk w10 B7 ({ r with Kind := 8 } : Fact).cells _ := hB7
  refine LW.nil ?_
  refine KW.then ?_
  refine CW.seq ?_
  have hS20 := hO20.sl (fun _ => rfl)
  have hC := baseC_raw hS20
  have hU5 := Up.refl w10
  -- region 5
  refine CW.region ?_
  refine LW.p (PEv.loadA Try.isAgg29 Try.sizeOf29 rfl (.tmp rfl) (hB10.agg)) rfl rfl rfl ?_
  refine LW.r (REv.allocA Try.zeroValue29) rfl rfl rfl rfl ?_
  rintro _ w11 ⟨B11, rfl, MB11⟩
  refine LW.s (SEv.storeA Try.sizeOf29 rfl (.tmp rfl) (.tmp rfl) (rawCells_one _ _ _) MB11.blk rfl) rfl rfl rfl ?_
  intro w12 LB11
  have NB11 := MB11.set LB11
  clear LB11 MB11
  have eB11 := NB11.at_
  have zB11 := NB11.size
  replace hW := hW.up NB11.up
  replace hB5 := hB5.up NB11.up
  replace hB6 := hB6.up NB11.up
  replace hB7 := hB7.up NB11.up
  replace hB10 := hB10.up NB11.up
  replace hU5 := hU5.up NB11.up
  have hB11 := NB11.blk
  refine LW.nil ?_
  refine KW.then ?_
  refine CW.seq ?_
  obtain ⟨bs, hbs⟩ : ∃ bs, bs = w12.heap.size := ⟨_, rfl⟩
  have hf40 : (fewL l).length ≤ 40 := fewL_length l
  -- region 6 draws its order
  refine CW.draws_then 6 (by kernel_rfl) (by kernel_rfl) (by kernel_rfl) (by kernel_rfl) (by kernel_rfl) rfl rfl ?_
  refine HW.r (p := fun v w => ∃ B, v = .slice (some ⟨B, 0, none⟩) 0 0 ∧ OwnS w bs 23 19 Fact.cells (.slice (some ⟨B, 0, none⟩) 0 0) ([] : List Fact)) (fun _ _ _ h u => let ⟨B, e, ho⟩ := h; ⟨B, e, ho.up u⟩) rfl (fun w hu a ha => let ⟨v, w', h1, h2⟩ := REv.buildSlice (xs := ([] : List Fact)) (enc := Fact.cells) (mk := fun f => .agg f.cells) Try.underlying27 Try.sizeOf23 Try.zeroValue23 rfl (by decide) (fun _ => rfl) (fun _ => rfl) .nil rfl a ha; ⟨v, w', h1, h2.own0 (by have := hu.size; omega)⟩) rfl ?_
  refine HW.p (PEv.fieldAddr (off := 6) Try.underlying29 rfl rfl Try.sizeOf27 rfl (.tmp rfl)) rfl rfl ?_
  refine HW.p (PEv.load Try.isAgg27 (.tmp rfl) (hB10.celln rfl)) rfl rfl ?_
  refine HW.r (p := fun v w => OwnS w bs 23 19 Fact.cells v (rawB (fewL l)).Holds) (fun _ _ _ h u => OwnS.up h u) rfl (fun w hu => REv.open (d := 25) (p := fun v w => ∃ B, v = .slice (some ⟨B, 0, none⟩) 0 0 ∧ OwnS w bs 23 19 Fact.cells (.slice (some ⟨B, 0, none⟩) 0 0) ([] : List Fact)) rfl fun v hv => by
  obtain ⟨B, rfl, ho⟩ := hv
  exact REv.append0 (bytes := 160) (i := Try.t23) Try.underlying27 (by kernel_rfl) rfl rfl rfl rfl (by decide) (fun _ => rfl) (.tmp rfl) (.tmp rfl) ho (Sl.up hS20 (hU5.trans hu)) (by simp [maxLen, rawB]; omega) (by simp [rawB]; omega) (by have := hu.size; omega)) rfl ?_
  refine HW.p (PEv.loadA Try.isAgg23 Try.sizeOf23 rfl (.tmp rfl) (hB6.agg)) rfl rfl ?_
  refine HW.r (p := fun v w => Sl w v 19 Fact.cells [({ h with Kind := 7 } : Fact)]) (fun _ _ _ h u => Sl.up h u) rfl (fun w hu a ha => let ⟨v, w', h1, h2⟩ := REv.buildSlice (xs := [({ h with Kind := 7 } : Fact)]) (enc := Fact.cells) (mk := fun f => .agg f.cells) Try.underlying27 Try.sizeOf23 Try.zeroValue23 rfl (Nat.le_of_ble_eq_true rfl) (fun _ => rfl) (fun _ => rfl) (.cons (.tmp rfl) .nil) rfl a ha; ⟨v, w', h1, h2.q⟩) rfl ?_
  refine HW.nil ?_
  intro w13 uw13
  have zw13 := uw13.size
  replace hW := hW.up uw13
  replace hB5 := hB5.up uw13
  replace hB6 := hB6.up uw13
  replace hB7 := hB7.up uw13
  replace hB10 := hB10.up uw13
  replace hU5 := hU5.up uw13
  replace hB11 := hB11.up uw13
  refine LW.open (d := 25) rfl fun v25 hp25 => ?_
  obtain ⟨B25, rfl, hO25⟩ := hp25
  refine LW.open (d := 28) rfl fun v28 hO28 => ?_
  refine LW.open (d := 30) rfl fun v30 hS30 => ?_
  refine LW.r (REv.appendL (enc := Fact.cells) (base := bs) (bytes := 160) (i := Try.t23) Try.underlying27 (by kernel_rfl) rfl rfl rfl rfl (by decide) (fun _ => rfl) Fact.one (.tmp rfl) (.tmp rfl) hO28 hS30  (by simp [maxLen, rawB]; omega) (by simp [rawB]; omega) (by omega)) rfl rfl rfl rfl ?_
  rintro v31 w14 ⟨Ow14, Gw14⟩
  have zw14 := Gw14.size
  replace hW := hW.gr Gw14 (by omega)
  replace hB5 := hB5.gr Gw14 (by omega)
  replace hB6 := hB6.gr Gw14 (by omega)
  replace hB7 := hB7.gr Gw14 (by omega)
  replace hB10 := hB10.gr Gw14 (by omega)
  replace hU5 := hU5.gr Gw14 (by omega)
  replace hB11 := hB11.gr Gw14 (by omega)
  replace hO28 := Ow14
  refine LW.p (PEv.fieldAddr (off := 6) Try.underlying29 rfl rfl Try.sizeOf27 rfl (.tmp rfl)) rfl rfl rfl ?_
  refine LW.s (SEv.store Try.sizeOf27 (.tmp rfl) (.tmp rfl) hO28.one hB11 (Nat.le_of_ble_eq_true rfl)) rfl rfl rfl ?_
  intro w15 Nw15
  have zw15 := Nw15.size
  replace hW := hW.sto Nw15.sto (by omega)
  replace hB5 := hB5.sto Nw15.sto (by omega)
  replace hB6 := hB6.sto Nw15.sto (by omega)
  replace hB7 := hB7.sto Nw15.sto (by omega)
  replace hB10 := hB10.sto Nw15.sto (by omega)
  replace hU5 := hU5.sto Nw15.sto (by omega)
  replace hO28 := hO28.sto Nw15.sto (by omega)
  replace hB11 := Nw15.blk
  refine LW.nil ?_
  refine KW.then ?_
  refine CW.seq ?_
  have hS31 := hO28.sl (fun _ => rfl)
  have hU7 := Up.refl w15
  -- region 7
  refine CW.region ?_
  refine LW.p (PEv.loadA Try.isAgg29 Try.sizeOf29 rfl (.tmp rfl) (hB10.agg)) rfl rfl rfl ?_
  refine LW.r (REv.allocA Try.zeroValue29) rfl rfl rfl rfl ?_
  rintro _ w16 ⟨B12, rfl, MB12⟩
  refine LW.s (SEv.storeA Try.sizeOf29 rfl (.tmp rfl) (.tmp rfl) (rawCells_one _ _ _) MB12.blk rfl) rfl rfl rfl ?_
  intro w17 LB12
  have NB12 := MB12.set LB12
  clear LB12 MB12
  have eB12 := NB12.at_
  have zB12 := NB12.size
  replace hW := hW.up NB12.up
  replace hB5 := hB5.up NB12.up
  replace hB6 := hB6.up NB12.up
  replace hB7 := hB7.up NB12.up
  replace hB10 := hB10.up NB12.up
  replace hU5 := hU5.up NB12.up
  replace hB11 := hB11.up NB12.up
  replace hU7 := hU7.up NB12.up
  have hB12 := NB12.blk
  refine LW.nil ?_
  refine KW.then ?_
  refine CW.seq ?_
  obtain ⟨bs, hbs⟩ : ∃ bs, bs = w17.heap.size := ⟨_, rfl⟩
  -- region 8 draws its order
  refine CW.draws_then 6 (by kernel_rfl) (by kernel_rfl) (by kernel_rfl) (by kernel_rfl) (by kernel_rfl) rfl rfl ?_
  refine HW.r (p := fun v w => ∃ B, v = .slice (some ⟨B, 0, none⟩) 0 0 ∧ OwnS w bs 23 19 Fact.cells (.slice (some ⟨B, 0, none⟩) 0 0) ([] : List Fact)) (fun _ _ _ h u => let ⟨B, e, ho⟩ := h; ⟨B, e, ho.up u⟩) rfl (fun w hu a ha => let ⟨v, w', h1, h2⟩ := REv.buildSlice (xs := ([] : List Fact)) (enc := Fact.cells) (mk := fun f => .agg f.cells) Try.underlying27 Try.sizeOf23 Try.zeroValue23 rfl (by decide) (fun _ => rfl) (fun _ => rfl) .nil rfl a ha; ⟨v, w', h1, h2.own0 (by have := hu.size; omega)⟩) rfl ?_
  refine HW.p (PEv.fieldAddr (off := 7) Try.underlying29 rfl rfl Try.sizeOf27 rfl (.tmp rfl)) rfl rfl ?_
  refine HW.p (PEv.load Try.isAgg27 (.tmp rfl) (hB10.celln rfl)) rfl rfl ?_
  refine HW.r (p := fun v w => OwnS w bs 23 19 Fact.cells v (rawB (fewL l)).Releases) (fun _ _ _ h u => OwnS.up h u) rfl (fun w hu => REv.open (d := 34) (p := fun v w => ∃ B, v = .slice (some ⟨B, 0, none⟩) 0 0 ∧ OwnS w bs 23 19 Fact.cells (.slice (some ⟨B, 0, none⟩) 0 0) ([] : List Fact)) rfl fun v hv => by
  obtain ⟨B, rfl, ho⟩ := hv
  exact REv.append0 (bytes := 160) (i := Try.t23) Try.underlying27 (by kernel_rfl) rfl rfl rfl rfl (by decide) (fun _ => rfl) (.tmp rfl) (.tmp rfl) ho (Sl.up hS20 (hU5.trans hu)) (by simp [maxLen, rawB]; omega) (by simp [rawB]; omega) (by have := hu.size; omega)) rfl ?_
  refine HW.p (PEv.loadA Try.isAgg23 Try.sizeOf23 rfl (.tmp rfl) (hB7.agg)) rfl rfl ?_
  refine HW.r (p := fun v w => Sl w v 19 Fact.cells [({ r with Kind := 8 } : Fact)]) (fun _ _ _ h u => Sl.up h u) rfl (fun w hu a ha => let ⟨v, w', h1, h2⟩ := REv.buildSlice (xs := [({ r with Kind := 8 } : Fact)]) (enc := Fact.cells) (mk := fun f => .agg f.cells) Try.underlying27 Try.sizeOf23 Try.zeroValue23 rfl (Nat.le_of_ble_eq_true rfl) (fun _ => rfl) (fun _ => rfl) (.cons (.tmp rfl) .nil) rfl a ha; ⟨v, w', h1, h2.q⟩) rfl ?_
  refine HW.nil ?_
  intro w18 uw18
  have zw18 := uw18.size
  replace hW := hW.up uw18
  replace hB5 := hB5.up uw18
  replace hB6 := hB6.up uw18
  replace hB7 := hB7.up uw18
  replace hB10 := hB10.up uw18
  replace hU5 := hU5.up uw18
  replace hB11 := hB11.up uw18
  replace hU7 := hU7.up uw18
  replace hB12 := hB12.up uw18
  refine LW.open (d := 34) rfl fun v34 hp34 => ?_
  obtain ⟨B34, rfl, hO34⟩ := hp34
  refine LW.open (d := 37) rfl fun v37 hO37 => ?_
  refine LW.open (d := 39) rfl fun v39 hS39 => ?_
  refine LW.r (REv.appendL (enc := Fact.cells) (base := bs) (bytes := 160) (i := Try.t23) Try.underlying27 (by kernel_rfl) rfl rfl rfl rfl (by decide) (fun _ => rfl) Fact.one (.tmp rfl) (.tmp rfl) hO37 hS39  (by simp [maxLen, rawB]; omega) (by simp [rawB]; omega) (by omega)) rfl rfl rfl rfl ?_
  rintro v40 w19 ⟨Ow19, Gw19⟩
  have zw19 := Gw19.size
  replace hW := hW.gr Gw19 (by omega)
  replace hB5 := hB5.gr Gw19 (by omega)
  replace hB6 := hB6.gr Gw19 (by omega)
  replace hB7 := hB7.gr Gw19 (by omega)
  replace hB10 := hB10.gr Gw19 (by omega)
  replace hU5 := hU5.gr Gw19 (by omega)
  replace hB11 := hB11.gr Gw19 (by omega)
  replace hU7 := hU7.gr Gw19 (by omega)
  replace hB12 := hB12.gr Gw19 (by omega)
  replace hO37 := Ow19
  refine LW.p (PEv.fieldAddr (off := 7) Try.underlying29 rfl rfl Try.sizeOf27 rfl (.tmp rfl)) rfl rfl rfl ?_
  refine LW.s (SEv.store Try.sizeOf27 (.tmp rfl) (.tmp rfl) hO37.one hB12 (Nat.le_of_ble_eq_true rfl)) rfl rfl rfl ?_
  intro w20 Nw20
  have zw20 := Nw20.size
  replace hW := hW.sto Nw20.sto (by omega)
  replace hB5 := hB5.sto Nw20.sto (by omega)
  replace hB6 := hB6.sto Nw20.sto (by omega)
  replace hB7 := hB7.sto Nw20.sto (by omega)
  replace hB10 := hB10.sto Nw20.sto (by omega)
  replace hU5 := hU5.sto Nw20.sto (by omega)
  replace hB11 := hB11.sto Nw20.sto (by omega)
  replace hU7 := hU7.sto Nw20.sto (by omega)
  replace hO37 := hO37.sto Nw20.sto (by omega)
  replace hB12 := Nw20.blk
  refine LW.nil ?_
  refine KW.then ?_
  refine CW.seq ?_
  have hS40 := hO37.sl (fun _ => rfl)
  have hU8 := Up.refl w20
  -- region 9
  refine CW.region ?_
  refine LW.p (PEv.loadA Try.isAgg29 Try.sizeOf29 rfl (.tmp rfl) (hB10.agg)) rfl rfl rfl ?_
  refine LW.p (PEv.loadA Try.isAgg25 Try.sizeOf25 rfl (.tmp rfl) (hB5.agg)) rfl rfl rfl ?_
  refine LW.c (enter_call0 (.cons (.tmp rfl) (.cons (.tmp rfl) .nil)) (Try.en10)) rfl rfl rfl rfl (Stops_ex _ _ _ _ (hC.up hU5) (by simp [rawB]; omega) (by simp [rawB]; omega) (by simp [rawB]; omega)) ?_
  rintro _ w21 ⟨was, ad44, cp44, e44, rfl, hE44, uw21⟩
  have zw21 := uw21.size
  replace hW := hW.up uw21
  replace hB5 := hB5.up uw21
  replace hB6 := hB6.up uw21
  replace hB7 := hB7.up uw21
  replace hB10 := hB10.up uw21
  replace hU5 := hU5.up uw21
  replace hB11 := hB11.up uw21
  replace hU7 := hU7.up uw21
  replace hB12 := hB12.up uw21
  replace hU8 := hU8.up uw21
  refine LW.p (PEv.assign (.tmp rfl)) rfl rfl rfl ?_
  refine LW.nil ?_
  refine KW.then ?_
  refine CW.seq ?_
  -- region 10
  refine CW.region ?_
  refine LW.p (PEv.loadA Try.isAgg29 Try.sizeOf29 rfl (.tmp rfl) (hB11.agg)) rfl rfl rfl ?_
  refine LW.p (PEv.loadA Try.isAgg25 Try.sizeOf25 rfl (.tmp rfl) (hB5.agg)) rfl rfl rfl ?_
  refine LW.c (enter_call0 (.cons (.tmp rfl) (.cons (.tmp rfl) .nil)) (Try.en10)) rfl rfl rfl rfl (Stops_ex _ _ _ _ ((hC.up hU5).setHolds (hS31.up hU7)) (by simp [rawB]; omega) (by simp [rawB]; omega) (by simp [rawB]; omega)) ?_
  rintro _ w22 ⟨more, ad47, cp47, e47, rfl, hE47, uw22⟩
  have zw22 := uw22.size
  replace hW := hW.up uw22
  replace hB5 := hB5.up uw22
  replace hB6 := hB6.up uw22
  replace hB7 := hB7.up uw22
  replace hB10 := hB10.up uw22
  replace hU5 := hU5.up uw22
  replace hB11 := hB11.up uw22
  replace hU7 := hU7.up uw22
  replace hB12 := hB12.up uw22
  replace hU8 := hU8.up uw22
  replace hE44 := hE44.up uw22
  refine LW.p (PEv.assign (.tmp rfl)) rfl rfl rfl ?_
  refine LW.nil ?_
  refine KW.then ?_
  refine CW.seq ?_
  -- region 11
  refine CW.region ?_
  refine LW.p (PEv.loadA Try.isAgg29 Try.sizeOf29 rfl (.tmp rfl) (hB12.agg)) rfl rfl rfl ?_
  refine LW.p (PEv.loadA Try.isAgg25 Try.sizeOf25 rfl (.tmp rfl) (hB5.agg)) rfl rfl rfl ?_
  refine LW.c (enter_call0 (.cons (.tmp rfl) (.cons (.tmp rfl) .nil)) (Try.en10)) rfl rfl rfl rfl (Stops_ex _ _ _ _ ((hC.up hU5).setReleases (hS40.up hU8)) (by simp [rawB]; omega) (by simp [rawB]; omega) (by simp [rawB]; omega)) ?_
  rintro _ w23 ⟨less, ad50, cp50, e50, rfl, hE50, uw23⟩
  have zw23 := uw23.size
  replace hW := hW.up uw23
  replace hB5 := hB5.up uw23
  replace hB6 := hB6.up uw23
  replace hB7 := hB7.up uw23
  replace hB10 := hB10.up uw23
  replace hU5 := hU5.up uw23
  replace hB11 := hB11.up uw23
  replace hU7 := hU7.up uw23
  replace hB12 := hB12.up uw23
  replace hU8 := hU8.up uw23
  replace hE44 := hE44.up uw23
  replace hE47 := hE47.up uw23
  refine LW.p (PEv.assign (.tmp rfl)) rfl rfl rfl ?_
  refine LW.nil ?_
  refine KW.then ?_
  refine CW.seq ?_
  refine CW.seq ?_
  have hM1 : ∀ x ∈ was, x ∈ more := by rw [e44, e47]; exact more_mem _ _ _
  have hM2 : ∀ x ∈ less, x ∈ was := by rw [e44, e50]; exact less_mem _ _ _
  have hM3 : more.length ≤ was.length + 1 := by rw [e44, e47]; exact more_length _ _ _
  have hM4 : was.length ≤ 40 := by rw [e44]; exact Nat.le_trans (stopsOf_length _ _) (by simpa [rawB] using hf40)
  have hM5 : less.length ≤ 40 := by rw [e50]; exact Nat.le_trans (stopsOf_length _ _) (by simpa [rawB] using hf40)
  -- region 12
  refine CW.region ?_
  refine LW.p (PEv.assign (.const _)) rfl rfl rfl ?_
  refine LW.nil ?_
  refine KW.then ?_
  refine CW.block ?_
  refine CW.loopB (σ := Nat) (fun s w => (s ≤ was.length) ∧ (Up w23 w)) (fun s => [(16, .eq (vi (s : Int)))]) ([(9, .eq _), (13, .eq _), (14, .eq _), (15, .eq _)]) (fun s => was.length - s) 0 ?_ ⟨rfl, rfl, rfl, rfl, rfl, trivial⟩ ?_
  · exact ⟨by simp, Up.refl _⟩
  · rintro k w24 ⟨hk, hL1⟩
    have zzw24 := hL1.size
    replace hW := hW.up hL1
    replace hB5 := hB5.up hL1
    replace hB6 := hB6.up hL1
    replace hB7 := hB7.up hL1
    replace hB10 := hB10.up hL1
    replace hU5 := hU5.up hL1
    replace hB11 := hB11.up hL1
    replace hU7 := hU7.up hL1
    replace hB12 := hB12.up hL1
    replace hU8 := hU8.up hL1
    replace hE44 := hE44.up hL1
    replace hE47 := hE47.up hL1
    replace hE50 := hE50.up hL1
    refine CW.seq ?_
    refine CW.seq ?_
    -- region 13
    refine CW.region ?_
    refine LW.p (PEv.move (.tmp rfl)) rfl rfl rfl ?_
    refine LW.p (PEv.move (.tmp rfl)) rfl rfl rfl ?_
    refine LW.p (PEv.lenS Try.underlying35 (.tmp rfl)) rfl rfl rfl ?_
    refine LW.p (PEv.lss (.tmp rfl) (.tmp rfl)) rfl rfl rfl ?_
    refine LW.nil ?_
    refine KW.then ?_
    refine CW.cond (.tmp rfl) (fun h54 => ?_) (fun h54 => ?_)
    · first | replace h54 := of_decide_eq_true h54 | replace h54 := of_decide_eq_false h54 | skip
      refine CW.skip ?_
      refine KW.then ?_
      refine CW.seq ?_
      refine CW.block ?_
      refine CW.seq ?_
      -- region 15
      refine CW.region ?_
      refine LW.p (PEv.move (.tmp rfl)) rfl rfl rfl ?_
      refine LW.p (PEv.move (.tmp rfl)) rfl rfl rfl ?_
      refine LW.p (PEv.move (.tmp rfl)) rfl rfl rfl ?_
      obtain ⟨x, hx⟩ := getElem?_of_lt (xs := was) (i := k) (by omega)
      obtain ⟨Bx, ox, ax, hcx⟩ := hE44 _ x hx
      refine LW.p (PEv.indexAddr' Try.underlying35 Try.sizeOf3 (.tmp rfl) (.tmp rfl) (by omega) ax) rfl rfl rfl ?_
      refine LW.p (PEv.load Try.isAgg3 (.tmp rfl) (hcx.nth (j := 0) rfl)) rfl rfl rfl ?_
      refine LW.c (enter_call0 (.cons (.tmp rfl) (.cons (.tmp rfl) .nil)) (Try.en11)) rfl rfl rfl rfl (has_any _ _ _ _ (Sl.of_els hE47) (by omega)) ?_
      rintro _ w25 ⟨rfl, uw25⟩
      have zw25 := uw25.size
      replace hW := hW.up uw25
      replace hB5 := hB5.up uw25
      replace hB6 := hB6.up uw25
      replace hB7 := hB7.up uw25
      replace hB10 := hB10.up uw25
      replace hU5 := hU5.up uw25
      replace hB11 := hB11.up uw25
      replace hU7 := hU7.up uw25
      replace hB12 := hB12.up uw25
      replace hU8 := hU8.up uw25
      replace hE44 := hE44.up uw25
      replace hE47 := hE47.up uw25
      replace hE50 := hE50.up uw25
      replace hL1 := hL1.up uw25
      replace hcx := hcx.up uw25
      refine LW.p (PEv.not (.tmp rfl)) rfl rfl rfl ?_
      refine LW.nil ?_
      refine KW.then ?_
      refine CW.cond (.tmp rfl) (fun h63 => ?_) (fun h63 => ?_)
      · first | replace h63 := of_decide_eq_true h63 | replace h63 := of_decide_eq_false h63 | skip
        rw [any_mem (hM1 _ (List.mem_of_getElem? hx))] at h63
        cases h63
      · first | replace h63 := of_decide_eq_true h63 | replace h63 := of_decide_eq_false h63 | skip
        refine CW.skip ?_
        refine KW.inBlock ?_
        refine KW.then ?_
        -- region 14
        refine CW.region ?_
        refine LW.p (PEv.move (.tmp rfl)) rfl rfl rfl ?_
        refine LW.p (PEv.add (.tmp rfl) (.const _) (by omega) (by omega)) rfl rfl rfl ?_
        refine LW.p (PEv.assign (.tmp rfl)) rfl rfl rfl ?_
        refine LW.nil ?_
        refine KW.round ?_
        exact ⟨k + 1, ⟨by omega, hL1⟩, ⟨rfl, rfl, rfl, rfl, rfl, trivial⟩, by first | omega | (dsimp only; omega)⟩
    · first | replace h54 := of_decide_eq_true h54 | replace h54 := of_decide_eq_false h54 | skip
      refine CW.exit ?_
      refine KW.then_exit ?_
      refine KW.then_exit ?_
      refine KW.block_hit ?_
      refine KW.then ?_
      refine CW.seq ?_
      refine CW.seq ?_
      -- region 17
      refine CW.region ?_
      refine LW.p (PEv.assign (.const _)) rfl rfl rfl ?_
      refine LW.nil ?_
      refine KW.then ?_
      refine CW.block ?_
      refine CW.loopB (σ := Nat) (fun s w => (s ≤ less.length) ∧ (Up w24 w)) (fun s => [(17, .eq (vi (s : Int)))]) ([(9, .eq _), (13, .eq _), (14, .eq _), (15, .eq _)]) (fun s => less.length - s) 0 ?_ ⟨rfl, rfl, rfl, rfl, rfl, trivial⟩ ?_
      · exact ⟨by simp, Up.refl _⟩
      · rintro k w26 ⟨hk, hL2⟩
        have zzw26 := hL2.size
        replace hW := hW.up hL2
        replace hB5 := hB5.up hL2
        replace hB6 := hB6.up hL2
        replace hB7 := hB7.up hL2
        replace hB10 := hB10.up hL2
        replace hU5 := hU5.up hL2
        replace hB11 := hB11.up hL2
        replace hU7 := hU7.up hL2
        replace hB12 := hB12.up hL2
        replace hU8 := hU8.up hL2
        replace hE44 := hE44.up hL2
        replace hE47 := hE47.up hL2
        replace hE50 := hE50.up hL2
        replace hL1 := hL1.up hL2
        refine CW.seq ?_
        refine CW.seq ?_
        -- region 18
        refine CW.region ?_
        refine LW.p (PEv.move (.tmp rfl)) rfl rfl rfl ?_
        refine LW.p (PEv.move (.tmp rfl)) rfl rfl rfl ?_
        refine LW.p (PEv.lenS Try.underlying35 (.tmp rfl)) rfl rfl rfl ?_
        refine LW.p (PEv.lss (.tmp rfl) (.tmp rfl)) rfl rfl rfl ?_
        refine LW.nil ?_
        refine KW.then ?_
        refine CW.cond (.tmp rfl) (fun h67 => ?_) (fun h67 => ?_)
        · first | replace h67 := of_decide_eq_true h67 | replace h67 := of_decide_eq_false h67 | skip
          refine CW.skip ?_
          refine KW.then ?_
          refine CW.seq ?_
          refine CW.block ?_
          refine CW.seq ?_
          -- region 20
          refine CW.region ?_
          refine LW.p (PEv.move (.tmp rfl)) rfl rfl rfl ?_
          refine LW.p (PEv.move (.tmp rfl)) rfl rfl rfl ?_
          refine LW.p (PEv.move (.tmp rfl)) rfl rfl rfl ?_
          obtain ⟨x, hx⟩ := getElem?_of_lt (xs := less) (i := k) (by omega)
          obtain ⟨Bx, ox, ax, hcx⟩ := hE50 _ x hx
          refine LW.p (PEv.indexAddr' Try.underlying35 Try.sizeOf3 (.tmp rfl) (.tmp rfl) (by omega) ax) rfl rfl rfl ?_
          refine LW.p (PEv.load Try.isAgg3 (.tmp rfl) (hcx.nth (j := 0) rfl)) rfl rfl rfl ?_
          refine LW.c (enter_call0 (.cons (.tmp rfl) (.cons (.tmp rfl) .nil)) (Try.en11)) rfl rfl rfl rfl (has_any _ _ _ _ (Sl.of_els hE44) (by omega)) ?_
          rintro _ w27 ⟨rfl, uw27⟩
          have zw27 := uw27.size
          replace hW := hW.up uw27
          replace hB5 := hB5.up uw27
          replace hB6 := hB6.up uw27
          replace hB7 := hB7.up uw27
          replace hB10 := hB10.up uw27
          replace hU5 := hU5.up uw27
          replace hB11 := hB11.up uw27
          replace hU7 := hU7.up uw27
          replace hB12 := hB12.up uw27
          replace hU8 := hU8.up uw27
          replace hE44 := hE44.up uw27
          replace hE47 := hE47.up uw27
          replace hE50 := hE50.up uw27
          replace hL1 := hL1.up uw27
          replace hL2 := hL2.up uw27
          replace hcx := hcx.up uw27
          refine LW.p (PEv.not (.tmp rfl)) rfl rfl rfl ?_
          refine LW.nil ?_
          refine KW.then ?_
          refine CW.cond (.tmp rfl) (fun h76 => ?_) (fun h76 => ?_)
          · first | replace h76 := of_decide_eq_true h76 | replace h76 := of_decide_eq_false h76 | skip
            rw [any_mem (hM2 _ (List.mem_of_getElem? hx))] at h76
            cases h76
          · first | replace h76 := of_decide_eq_true h76 | replace h76 := of_decide_eq_false h76 | skip
            refine CW.skip ?_
            refine KW.inBlock ?_
            refine KW.then ?_
            -- region 19
            refine CW.region ?_
            refine LW.p (PEv.move (.tmp rfl)) rfl rfl rfl ?_
            refine LW.p (PEv.add (.tmp rfl) (.const _) (by omega) (by omega)) rfl rfl rfl ?_
            refine LW.p (PEv.assign (.tmp rfl)) rfl rfl rfl ?_
            refine LW.nil ?_
            refine KW.round ?_
            exact ⟨k + 1, ⟨by omega, hL2⟩, ⟨rfl, rfl, rfl, rfl, rfl, trivial⟩, by first | omega | (dsimp only; omega)⟩
        · first | replace h67 := of_decide_eq_true h67 | replace h67 := of_decide_eq_false h67 | skip
          refine CW.exit ?_
          refine KW.then_exit ?_
          refine KW.then_exit ?_
          refine KW.block_hit ?_
          refine KW.then ?_
          refine CW.seq ?_
          -- region 22
          refine CW.region ?_
          refine LW.p (PEv.move (.tmp rfl)) rfl rfl rfl ?_
          refine LW.p (PEv.move (.tmp rfl)) rfl rfl rfl ?_
          refine LW.yes rfl rfl rfl rfl rfl rfl ?_
          refine LW.p (PEv.move (.tmp rfl)) rfl rfl rfl ?_
          refine LW.yes rfl rfl rfl rfl rfl rfl ?_
          refine LW.p (PEv.lenS Try.underlying35 (.tmp rfl)) rfl rfl rfl ?_
          refine LW.yes rfl rfl rfl rfl rfl rfl ?_
          refine LW.p (PEv.move (.tmp rfl)) rfl rfl rfl ?_
          refine LW.yes rfl rfl rfl rfl rfl rfl ?_
          refine LW.p (PEv.lenS Try.underlying35 (.tmp rfl)) rfl rfl rfl ?_
          refine LW.yes rfl rfl rfl rfl rfl rfl ?_
          refine LW.p (PEv.add (.tmp rfl) (.const _) (by omega) (by omega)) rfl rfl rfl ?_
          refine LW.yes rfl rfl rfl rfl rfl rfl ?_
          refine LW.p (PEv.leq (.tmp rfl) (.tmp rfl)) rfl rfl rfl ?_
          refine LW.p (PEv.pick_and (.tmp rfl) (fun hp => (by first | exact .const _ | exact .tmp rfl | exact .cond rfl (by first | assumption | simp_all)))) rfl rfl rfl ?_
          refine LW.p (PEv.assign (.tmp rfl)) rfl rfl rfl ?_
          refine LW.nil ?_
          refine KW.then ?_
          refine CW.ret ?_
          refine KW.ret1 rfl rfl ⟨_, rfl, ?_⟩
          first | exact ⟨rfl, hW⟩ | exact ⟨congrArg Go.Value.bool (by simp; omega), hW⟩

end Go.Proofs.Ytdkfjllchhoojaa
