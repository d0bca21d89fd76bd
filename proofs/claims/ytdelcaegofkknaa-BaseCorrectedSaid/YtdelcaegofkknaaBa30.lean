import Derived.Test.YtdelcaegofkknaaBa29
namespace Go.Wx

theorem quo40 {o : Int} (h : inI o) : inI (o.tdiv 40) ∧ Go.Value.int .i64 (IntKind.i64.wrap (o.tdiv 40)) = vi (o.tdiv 40) := by
  have e : (o.tdiv 40).natAbs = o.natAbs / 40 := Int.natAbs_tdiv o 40
  obtain ⟨h1, h2⟩ := h
  have b : inI (o.tdiv 40) := ⟨by omega, by omega⟩
  exact ⟨b, by rw [wrap_i64_in b.1 b.2]⟩
theorem OwnS.addr {α : Type} {enc : α → Array Go.Value} {b k n cp : Nat} {e : TypeId} {w : World} {ad : Option Addr} {xs : List α} (h : OwnS w b e k enc (.slice ad n cp) xs) (hne : 0 < xs.length) : ∃ g, ad = some ⟨g, 0, none⟩ := by
  obtain ⟨_, ⟨e1, hn⟩ | ⟨g, cap, cur, e1, _⟩⟩ := h
  · omega
  · injection e1 with e2
    exact ⟨g, e2⟩
theorem swap_mem {α : Type} {M : List α} {a b : Nat} {x y : α} (hx : M[a]? = some x) (hy : M[b]? = some y) (z : α) : z ∈ (M.set a y).set b x ↔ z ∈ M := by
  have la := (List.getElem?_eq_some_iff.1 hx).1
  have lb := (List.getElem?_eq_some_iff.1 hy).1
  rw [List.mem_iff_getElem?, List.mem_iff_getElem?]
  constructor
  · rintro ⟨i, hi⟩
    rw [List.getElem?_set, List.getElem?_set] at hi
    split at hi
    · rw [List.length_set, if_pos lb] at hi
      cases hi
      exact ⟨a, hx⟩
    · split at hi
      · first | (rw [if_pos la] at hi; cases hi) | cases hi
        exact ⟨b, hy⟩
      · exact ⟨i, hi⟩
  · rintro ⟨i, hi⟩
    by_cases e1 : i = a
    · subst e1
      rw [hx] at hi
      cases hi
      exact ⟨b, by rw [List.getElem?_set, if_pos rfl, List.length_set, if_pos lb]⟩
    · by_cases e2 : i = b
      · subst e2
        rw [hy] at hi
        cases hi
        exact ⟨a, by rw [List.getElem?_set, if_neg (fun e => e1 e), List.getElem?_set, if_pos rfl, if_pos la]⟩
      · exact ⟨i, by rw [List.getElem?_set, if_neg (fun e => e2 e.symm), List.getElem?_set, if_neg (fun e => e1 e.symm)]; exact hi⟩
theorem order_same {l m : List Fact} (h : ∀ x, x ∈ m ↔ x ∈ l) (d : Int) : sameB (ofB l d) (ofB m d) = true := by
  rw [ofB_set h d]; exact sameB_refl _

end Go.Wx
namespace Go.Proofs.Ytdelcaegofkknaa
open Go.Wx Go.RowKit
set_option maxHeartbeats 4000000 in
theorem BaseOrder_any (ad ad' : Option Addr) (cp cp' : Nat) (l : List Fact) (os : List Int) (day : Int) (w : World) (hE1 : Els w ad 19 Fact.cells l) (hE2 : Els w ad' 1 eInt os) (ho : ∀ o ∈ os, inI o) (hday : inI day) : Ret Try.prog 3 #[.slice ad l.length cp, .slice ad' os.length cp', vi day] w fun r w' => r = .bool true ∧ Up w w' := by
  obtain ⟨w0, rfl⟩ : ∃ w0, w0 = w := ⟨_, rfl⟩
  have hS := Sep.start no w0
  refine Calls_start (n := 88) (m := 9) Try.func3 rfl rfl rfl ?_
  refine CW.seq ?_
  -- region 0
  refine CW.region ?_
  refine LW.p (PEv.assign (.const _)) rfl rfl rfl ?_
  refine LW.nil ?_
  refine KW.then ?_
  refine CW.seq ?_
  -- region 1
  refine CW.region ?_
  refine LW.c (enter_call0 .nil (Try.en9)) rfl rfl rfl rfl (sane_any _) ?_
  rintro _ w1 ⟨rfl, uw1⟩
  have zw1 := uw1.size
  replace hS := hS.up uw1
  refine LW.p (PEv.assign (.tmp rfl)) rfl rfl rfl ?_
  refine LW.nil ?_
  refine KW.then ?_
  refine CW.seq ?_
  -- region 2
  refine CW.region ?_
  refine LW.p (PEv.move (.tmp rfl)) rfl rfl rfl ?_
  refine LW.c (enter_call0 (.cons (.tmp rfl) (.cons (.const _) .nil)) (Try.en10)) rfl rfl rfl rfl (few_any _ _ 40 l _ (Els.up hE1 hS.upd) (by decide)) ?_
  rintro v15 w2 ⟨hO15, uw2⟩
  have zw2 := uw2.size
  replace hS := hS.add uw2 (A' := aOwn 28 19 Fact.cells v15 (fewL 40 l)) (hO15.mono (Nat.zero_le _)) (fun i h => hO15.base i h)
  change Wx.Sep _ _ _ [_] at hS
  clear hO15
  obtain ⟨ad15, cp15, rfl, _⟩ := (hS.own 0 rfl).sl (fun _ => rfl)
  refine LW.p (PEv.assign (.tmp rfl)) rfl rfl rfl ?_
  refine LW.nil ?_
  refine KW.then ?_
  refine CW.seq ?_
  -- region 3
  refine CW.region ?_
  refine LW.r (REv.buildSlice (xs := ([] : List Fact)) (enc := Fact.cells) (mk := fun f : Fact => .agg f.cells) Try.underlying22 Try.sizeOf28 Try.zeroValue28 rfl (by decide) (fun _ => rfl) (fun _ => rfl) .nil rfl) rfl rfl rfl rfl ?_
  intro v16 w3 hN16
  obtain ⟨uw3, B16, rfl, hO16⟩ := NewSl.own0 (base := w2.heap.size) hN16 (Nat.le_refl _)
  have zw3 := uw3.size
  replace hS := hS.add uw3 (A' := aOwn 28 19 Fact.cells (.slice (some ⟨B16, 0, none⟩) 0 0) ([] : List Fact)) (hO16.mono (Nat.zero_le _)) (fun i h => hO16.base i h)
  clear hN16 hO16
  change Wx.Sep _ _ _ [_, _] at hS
  refine LW.p (PEv.move (.tmp rfl)) rfl rfl rfl ?_
  refine LW.r (REv.appendF (enc := Fact.cells) (bytes := 160) (i := Try.t28) Try.underlying22 (by kernel_rfl) rfl rfl rfl rfl (by decide) (fun _ => rfl) Fact.one (.tmp rfl) (.tmp rfl) (hS.own 1 rfl) ((hS.own 0 rfl).sl (fun _ => rfl)) (by have := fewL_length 40 l; simp [maxLen]; omega) (by have := fewL_length 40 l; simp; omega)) rfl rfl rfl rfl ?_
  intro v18 w4 Gw4
  have zw4 := Gw4.fr.size
  replace hS := hS.stp 1 rfl Gw4
  change Wx.Sep _ _ _ [_, _] at hS
  refine LW.p (PEv.assign (.tmp rfl)) rfl rfl rfl ?_
  refine LW.nil ?_
  refine KW.then ?_
  refine CW.seq ?_
  refine CW.seq ?_
  -- region 4
  refine CW.region ?_
  refine LW.p (PEv.assign (.const _)) rfl rfl rfl ?_
  refine LW.nil ?_
  refine KW.then ?_
  refine CW.block ?_
  refine CW.loopB (σ := Nat × Go.Value × List Fact) (fun s w => (s.1 ≤ 60) ∧ (∀ z, z ∈ s.2.2 ↔ z ∈ fewL 40 l) ∧ (s.2.2.length ≤ 40 + s.1) ∧ (Wx.Sep no w0 w [aOwn 28 19 Fact.cells (.slice ad15 (fewL 40 l).length cp15) (fewL 40 l), aOwn 28 19 Fact.cells s.2.1 (s.2.2)])) (fun s => [(9, .eq (vi (s.1 : Int))), (8, .eq (s.2.1))]) ([(0, .eq _), (1, .eq _), (2, .eq _), (6, .eq _), (7, .eq _)]) (fun s => 60 - s.1) (0, v18, fewL 40 l) ?_ ⟨rfl, rfl, rfl, rfl, rfl, rfl, rfl, trivial⟩ ?_
  · exact ⟨Nat.zero_le _, fun _ => Iff.rfl, by have := fewL_length 40 l; show (fewL 40 l).length ≤ 40 + 0; omega, hS⟩
  · rintro ⟨i, v, M⟩ w5 ⟨hi, hM, hl, hS⟩
    dsimp only at hi hM hl hS
    change CW _ _ _ _ _ _ _ ([(9, .eq (vi (i : Int))), (8, .eq (v))] ++ _) _
    refine CW.seq ?_
    refine CW.seq ?_
    obtain ⟨adv, cpv, rfl, _⟩ := (hS.own 1 rfl).sl (fun _ => rfl)
    -- region 5
    refine CW.region ?_
    refine LW.p (PEv.move (.tmp rfl)) rfl rfl rfl ?_
    refine LW.p (PEv.move (.tmp rfl)) rfl rfl rfl ?_
    refine LW.p (PEv.lenS Try.underlying23 (.tmp rfl)) rfl rfl rfl ?_
    refine LW.p (PEv.lss (.tmp rfl) (.tmp rfl)) rfl rfl rfl ?_
    refine LW.p (PEv.move (.tmp rfl)) rfl rfl rfl ?_
    refine LW.g rfl rfl rfl rfl rfl rfl rfl (fun hc => PEv.move (.tmp rfl)) ?_
    refine LW.g rfl rfl rfl rfl rfl rfl rfl (fun hc => PEv.lss (by first | exact .tmp rfl | exact .cond rfl (by first | assumption | simp_all)) (.const _)) ?_
    refine LW.p (PEv.pick_and (.tmp rfl) (fun hp => (by first | exact .const _ | exact .tmp rfl | exact .cond rfl (by first | assumption | simp_all)))) rfl rfl rfl ?_
    refine LW.p (PEv.move (.tmp rfl)) rfl rfl rfl ?_
    refine LW.g rfl rfl rfl rfl rfl rfl rfl (fun hc => PEv.move (.tmp rfl)) ?_
    refine LW.g rfl rfl rfl rfl rfl rfl rfl (fun hc => PEv.lenS Try.underlying22 (by first | exact .tmp rfl | exact .cond rfl (by first | assumption | simp_all))) ?_
    refine LW.g rfl rfl rfl rfl rfl rfl rfl (fun hc => PEv.gtr (by first | exact .tmp rfl | exact .cond rfl (by first | assumption | simp_all)) (.const _)) ?_
    refine LW.p (PEv.pick_and (.tmp rfl) (fun hp => (by first | exact .const _ | exact .tmp rfl | exact .cond rfl (by first | assumption | simp_all)))) rfl rfl rfl ?_
    refine LW.nil ?_
    refine KW.then ?_
    refine CW.cond (.tmp rfl) (fun h31 => ?_) (fun h31 => ?_)
    · first | replace h31 := of_decide_eq_true h31 | replace h31 := of_decide_eq_false h31 | skip
      have hc : i < os.length ∧ i < 60 ∧ 0 < M.length := by simp at h31; omega
      refine CW.skip ?_
      refine KW.then ?_
      refine CW.seq ?_
      refine CW.block ?_
      refine CW.seq ?_
      obtain ⟨o, hoi⟩ := getElem?_of_lt (xs := os) (i := i) (by omega)
      have hio := ho o (List.mem_of_getElem? hoi)
      obtain ⟨Bo, oo, ao, hco⟩ := hE2 i o hoi
      obtain ⟨g, rfl⟩ := (hS.own 1 rfl).addr hc.2.2
      -- region 7
      refine CW.region ?_
      refine LW.p (PEv.move (.tmp rfl)) rfl rfl rfl ?_
      refine LW.p (PEv.move (.tmp rfl)) rfl rfl rfl ?_
      refine LW.p (PEv.indexAddr' Try.underlying23 Try.sizeOf3 (.tmp rfl) (.tmp rfl) (by omega) ao) rfl rfl rfl ?_
      refine LW.p (PEv.load Try.isAgg3 (.tmp rfl) ((hco.up hS.upd).nth (j := 0) rfl)) rfl rfl rfl ?_
      refine LW.p (PEv.move (.tmp rfl)) rfl rfl rfl ?_
      refine LW.p (PEv.lenS Try.underlying22 (.tmp rfl)) rfl rfl rfl ?_
      refine LW.c (enter_call0 (.cons (.tmp rfl) (.cons (.tmp rfl) .nil)) (Try.en11)) rfl rfl rfl rfl (pick_any _ _ _ (by omega)) ?_
      rintro _ w6 ⟨rfl, uw6⟩
      have zw6 := uw6.size
      replace hS := hS.up uw6
      have hp := pick_range (c := o) (n := (M.length : Int)) hio (by omega)
      obtain ⟨p, ep⟩ : ∃ p : Nat, pickI (o) (M.length : Int) = (p : Int) := ⟨(pickI (o) (M.length : Int)).toNat, by omega⟩
      rw [ep] at hp ⊢
      refine LW.p (PEv.assign (.tmp rfl)) rfl rfl rfl ?_
      refine LW.nil ?_
      refine KW.then ?_
      refine CW.seq ?_
      -- region 8
      refine CW.region ?_
      refine LW.p (PEv.move (.tmp rfl)) rfl rfl rfl ?_
      refine LW.p (PEv.move (.tmp rfl)) rfl rfl rfl ?_
      refine LW.p (PEv.indexAddr' Try.underlying23 Try.sizeOf3 (.tmp rfl) (.tmp rfl) (by omega) ao) rfl rfl rfl ?_
      refine LW.p (PEv.load Try.isAgg3 (.tmp rfl) ((hco.up hS.upd).nth (j := 0) rfl)) rfl rfl rfl ?_
      refine LW.p (PEv.val (v' := vi (o.tdiv 40)) (PEv.quo (.tmp rfl) (.const _) (by decide)) (quo40 hio).2) rfl rfl rfl ?_
      refine LW.p (PEv.move (.tmp rfl)) rfl rfl rfl ?_
      refine LW.p (PEv.lenS Try.underlying22 (.tmp rfl)) rfl rfl rfl ?_
      refine LW.c (enter_call0 (.cons (.tmp rfl) (.cons (.tmp rfl) .nil)) (Try.en11)) rfl rfl rfl rfl (pick_any _ _ _ (by omega)) ?_
      rintro _ w7 ⟨rfl, uw7⟩
      have zw7 := uw7.size
      replace hS := hS.up uw7
      have hq := pick_range (c := o.tdiv 40) (n := (M.length : Int)) (quo40 hio).1 (by omega)
      obtain ⟨q, eq⟩ : ∃ q : Nat, pickI (o.tdiv 40) (M.length : Int) = (q : Int) := ⟨(pickI (o.tdiv 40) (M.length : Int)).toNat, by omega⟩
      rw [eq] at hq ⊢
      refine LW.p (PEv.assign (.tmp rfl)) rfl rfl rfl ?_
      refine LW.nil ?_
      refine KW.then ?_
      refine CW.seq ?_
      obtain ⟨x, hx⟩ := getElem?_of_lt (xs := M) (i := p) (by omega)
      obtain ⟨y, hy⟩ := getElem?_of_lt (xs := M) (i := q) (by omega)
      -- region 9, two stores
      refine CW.stores2 13 15 [.slice (some ⟨g, 0, none⟩) M.length cpv, vi ((p : Nat) : Int), .slice (some ⟨g, 0, none⟩) M.length cpv, vi ((q : Nat) : Int), .slice (some ⟨g, 0, none⟩) M.length cpv, vi ((q : Nat) : Int), .pointer (some ⟨g, 0 + (q) * 19, none⟩), .agg (Fact.cells y), .slice (some ⟨g, 0, none⟩) M.length cpv, vi ((p : Nat) : Int), .pointer (some ⟨g, 0 + (p) * 19, none⟩), .agg (Fact.cells x), .pointer (some ⟨g, 0 + (p) * 19, none⟩), undef, .pointer (some ⟨g, 0 + (q) * 19, none⟩), undef] (fun W => Wx.Sep no w0 W [aOwn 28 19 Fact.cells (.slice ad15 (fewL 40 l).length cp15) (fewL 40 l), aOwn 28 19 Fact.cells (.slice (some ⟨g, 0, none⟩) M.length cpv) (M)]) (fun W => Wx.Sep no w0 W [aOwn 28 19 Fact.cells (.slice ad15 (fewL 40 l).length cp15) (fewL 40 l), aOwn 28 19 Fact.cells (.slice (some ⟨g, 0, none⟩) M.length cpv) ((M).set (p) y)]) (fun W => Wx.Sep no w0 W [aOwn 28 19 Fact.cells (.slice ad15 (fewL 40 l).length cp15) (fewL 40 l), aOwn 28 19 Fact.cells (.slice (some ⟨g, 0, none⟩) M.length cpv) (((M).set (p) y).set (q) x)]) (by kernel_rfl) rfl (by kernel_rfl) (by kernel_rfl) (by kernel_rfl) (by kernel_rfl) (by kernel_rfl) (by kernel_rfl) (hS.up (Up.drew _)) ?_ _ _ rfl rfl ⟨rfl, rfl⟩ ⟨rfl, rfl⟩ ?_ ?_ ?_
      · refine allL.cons (.inr ⟨rfl, .inr fun W => PEv.move (.tmp rfl)⟩) ?_
        refine allL.cons (.inr ⟨rfl, .inr fun W => PEv.move (.tmp rfl)⟩) ?_
        refine allL.cons (.inr ⟨rfl, .inr fun W => PEv.move (.tmp rfl)⟩) ?_
        refine allL.cons (.inr ⟨rfl, .inr fun W => PEv.move (.tmp rfl)⟩) ?_
        refine allL.cons (.inr ⟨rfl, .inr fun W => PEv.move (.tmp rfl)⟩) ?_
        refine allL.cons (.inr ⟨rfl, .inr fun W => PEv.move (.tmp rfl)⟩) ?_
        refine allL.cons (.inr ⟨rfl, .inr fun W => PEv.indexAddr Try.underlying22 Try.sizeOf28 (.tmp rfl) (.tmp rfl) (by omega)⟩) ?_
        refine allL.cons (.inr ⟨rfl, .inl ⟨by kernel_rfl, fun W hS => PEv.loadA Try.isAgg28 Try.sizeOf28 rfl (.tmp rfl) ((hS.own 1 rfl).at (fun _ => rfl) hy)⟩⟩) ?_
        refine allL.cons (.inr ⟨rfl, .inr fun W => PEv.move (.tmp rfl)⟩) ?_
        refine allL.cons (.inr ⟨rfl, .inr fun W => PEv.move (.tmp rfl)⟩) ?_
        refine allL.cons (.inr ⟨rfl, .inr fun W => PEv.indexAddr Try.underlying22 Try.sizeOf28 (.tmp rfl) (.tmp rfl) (by omega)⟩) ?_
        refine allL.cons (.inr ⟨rfl, .inl ⟨by kernel_rfl, fun W hS => PEv.loadA Try.isAgg28 Try.sizeOf28 rfl (.tmp rfl) ((hS.own 1 rfl).at (fun _ => rfl) hx)⟩⟩) ?_
        refine allL.cons (.inr ⟨rfl, .inr fun W => PEv.indexAddr Try.underlying22 Try.sizeOf28 (.tmp rfl) (.tmp rfl) (by omega)⟩) ?_
        refine allL.cons (.inl (by simp)) ?_
        refine allL.cons (.inr ⟨rfl, .inr fun W => PEv.indexAddr Try.underlying22 Try.sizeOf28 (.tmp rfl) (.tmp rfl) (by omega)⟩) ?_
        refine allL.cons (.inl (by simp)) ?_
        exact allL.nil
      · intro W hS
        exact SEv.mono (SEv.storeOwnA (i := p) (z := y) Try.sizeOf28 (fun _ => rfl) Fact.one (.tmp rfl) (.tmp rfl) (hS.own 1 rfl) (by omega)) (fun _ h => hS.stp 1 rfl h)
      · intro W hS
        exact SEv.mono (SEv.storeOwnA (i := q) (z := x) Try.sizeOf28 (fun _ => rfl) Fact.one (.tmp rfl) (.tmp rfl) (hS.own 1 rfl) (by omega)) (fun _ h => hS.stp 1 rfl h)
      · intro w8 hS
        have hS : Wx.Sep no w0 w8 [aOwn 28 19 Fact.cells (.slice ad15 (fewL 40 l).length cp15) (fewL 40 l), aOwn 28 19 Fact.cells (.slice (some ⟨g, 0, none⟩) M.length cpv) (((M).set (p) y).set (q) x)] := hS
        obtain ⟨M2, eM2⟩ : ∃ M2, M2 = (M.set p y).set q x := ⟨_, rfl⟩
        have hM2 : ∀ z, z ∈ M2 ↔ z ∈ fewL 40 l := fun z => by rw [eM2, swap_mem hx hy]; exact hM z
        have hl2 : M2.length = M.length := by rw [eM2, List.length_set, List.length_set]
        rw [← eM2] at hS
        refine KW.then ?_
        refine CW.seq ?_
        -- region 10
        refine CW.region ?_
        refine LW.p (PEv.move (.tmp rfl)) rfl rfl rfl ?_
        refine LW.p (PEv.move (.tmp rfl)) rfl rfl rfl ?_
        refine LW.p (PEv.indexAddr' Try.underlying23 Try.sizeOf3 (.tmp rfl) (.tmp rfl) (by omega) ao) rfl rfl rfl ?_
        refine LW.p (PEv.load Try.isAgg3 (.tmp rfl) ((hco.up hS.upd).nth (j := 0) rfl)) rfl rfl rfl ?_
        refine LW.c (enter_call0 (.cons (.tmp rfl) (.cons (.const _) .nil)) (Try.en11)) rfl rfl rfl rfl (pick_any _ _ _ (by decide)) ?_
        rintro _ w9 ⟨rfl, uw9⟩
        have zw9 := uw9.size
        replace hS := hS.up uw9
        refine LW.p (PEv.eql (.tmp rfl) (.const _)) rfl rfl rfl ?_
        refine LW.nil ?_
        refine KW.then ?_
        refine CW.cond (.tmp rfl) (fun h68 => ?_) (fun h68 => ?_)
        · first | replace h68 := of_decide_eq_true h68 | replace h68 := of_decide_eq_false h68 | skip
          obtain ⟨z, hz⟩ := getElem?_of_lt (xs := M2) (i := p) (by omega)
          obtain ⟨Bz, oz, az, hcz⟩ := ((hS.own 1 rfl).els (fun _ => rfl)) p z hz
          -- region 11
          refine CW.region ?_
          refine LW.p (PEv.move (.tmp rfl)) rfl rfl rfl ?_
          refine LW.p (PEv.move (.tmp rfl)) rfl rfl rfl ?_
          refine LW.p (PEv.move (.tmp rfl)) rfl rfl rfl ?_
          refine LW.p (PEv.indexAddr' Try.underlying22 Try.sizeOf28 (.tmp rfl) (.tmp rfl) (by omega) az) rfl rfl rfl ?_
          refine LW.p (PEv.loadA Try.isAgg28 Try.sizeOf28 rfl (.tmp rfl) (hcz)) rfl rfl rfl ?_
          refine LW.r (REv.buildSlice (xs := [z]) (enc := Fact.cells) (mk := fun f : Fact => .agg f.cells) Try.underlying22 Try.sizeOf28 Try.zeroValue28 rfl (by decide) (fun _ => rfl) (fun _ => rfl) (.cons (.tmp rfl) .nil) rfl) rfl rfl rfl rfl ?_
          rintro _ w10 ⟨B74, cB74, rfl, NB74, yB74, xB74⟩
          have eB74 := NB74.at_
          have zB74 := NB74.size
          replace hS := hS.up NB74.up
          have hE74 := xB74
          refine LW.r (REv.appendF (enc := Fact.cells) (bytes := 160) (i := Try.t28) Try.underlying22 (by kernel_rfl) rfl rfl rfl rfl (by decide) (fun _ => rfl) Fact.one (.tmp rfl) (.tmp rfl) (hS.own 1 rfl) (Sl.of_els hE74) (by have := hl2; simp [maxLen]; omega) (by have := hl2; simp; omega)) rfl rfl rfl rfl ?_
          intro v75 w11 Gw11
          have zw11 := Gw11.fr.size
          replace hS := hS.stp 1 rfl Gw11
          change Wx.Sep _ _ _ [_, _] at hS
          refine LW.p (PEv.assign (.tmp rfl)) rfl rfl rfl ?_
          refine LW.nil ?_
          refine KW.inBlock ?_
          refine KW.then ?_
          -- region 6
          refine CW.region ?_
          refine LW.p (PEv.move (.tmp rfl)) rfl rfl rfl ?_
          refine LW.p (PEv.inc (.tmp rfl) (by omega)) rfl rfl rfl ?_
          refine LW.p (PEv.assign (.tmp rfl)) rfl rfl rfl ?_
          refine LW.nil ?_
          refine KW.round ?_
          first | exact ⟨(i + 1, v75, M2 ++ [z]), ⟨by show i + 1 ≤ 60; omega, fun u => by rw [List.mem_append, List.mem_singleton, hM2]; exact ⟨fun h => h.elim id (fun e => by rw [e]; exact (hM2 z).1 (List.mem_of_getElem? hz)), .inl⟩, by show (M2 ++ [z]).length ≤ 40 + (i + 1); simp; omega, hS.take 2⟩, ⟨rfl, rfl, rfl, rfl, rfl, rfl, rfl, trivial⟩, by show 60 - (i + 1) < 60 - i; omega⟩ | exact ⟨(i + 1, .slice (some ⟨g, 0, none⟩) M.length cpv, M2), ⟨by show i + 1 ≤ 60; omega, hM2, by show M2.length ≤ 40 + (i + 1); omega, hS.take 2⟩, ⟨rfl, rfl, rfl, rfl, rfl, rfl, rfl, trivial⟩, by show 60 - (i + 1) < 60 - i; omega⟩
        · first | replace h68 := of_decide_eq_true h68 | replace h68 := of_decide_eq_false h68 | skip
          refine CW.skip ?_
          refine KW.inBlock ?_
          refine KW.then ?_
          -- region 6
          refine CW.region ?_
          refine LW.p (PEv.move (.tmp rfl)) rfl rfl rfl ?_
          refine LW.p (PEv.inc (.tmp rfl) (by omega)) rfl rfl rfl ?_
          refine LW.p (PEv.assign (.tmp rfl)) rfl rfl rfl ?_
          refine LW.nil ?_
          refine KW.round ?_
          first | exact ⟨(i + 1, v75, M2 ++ [z]), ⟨by show i + 1 ≤ 60; omega, fun u => by rw [List.mem_append, List.mem_singleton, hM2]; exact ⟨fun h => h.elim id (fun e => by rw [e]; exact (hM2 z).1 (List.mem_of_getElem? hz)), .inl⟩, by show (M2 ++ [z]).length ≤ 40 + (i + 1); simp; omega, hS.take 2⟩, ⟨rfl, rfl, rfl, rfl, rfl, rfl, rfl, trivial⟩, by show 60 - (i + 1) < 60 - i; omega⟩ | exact ⟨(i + 1, .slice (some ⟨g, 0, none⟩) M.length cpv, M2), ⟨by show i + 1 ≤ 60; omega, hM2, by show M2.length ≤ 40 + (i + 1); omega, hS.take 2⟩, ⟨rfl, rfl, rfl, rfl, rfl, rfl, rfl, trivial⟩, by show 60 - (i + 1) < 60 - i; omega⟩
    · first | replace h31 := of_decide_eq_true h31 | replace h31 := of_decide_eq_false h31 | skip
      refine CW.exit ?_
      refine KW.then_exit ?_
      refine KW.then_exit ?_
      refine KW.block_hit ?_
      refine KW.then ?_
      refine CW.seq ?_
      -- region 12
      refine CW.region ?_
      refine LW.p (PEv.move (.tmp rfl)) rfl rfl rfl ?_
      refine LW.c (enter_call0 (.cons (.tmp rfl) (.cons (.const _) .nil)) (Try.en11)) rfl rfl rfl rfl (pick_any _ _ _ (by decide)) ?_
      rintro _ w12 ⟨rfl, uw12⟩
      have zw12 := uw12.size
      replace hS := hS.up uw12
      have hd := pick_range (c := day) (n := 10) hday (by decide)
      obtain ⟨d, ed⟩ : ∃ d, d = pickI day 10 := ⟨_, rfl⟩
      rw [← ed] at hd ⊢
      refine LW.p (PEv.assign (.tmp rfl)) rfl rfl rfl ?_
      refine LW.nil ?_
      refine KW.then ?_
      refine CW.seq ?_
      have hf1 := fewL_length 40 l
      have hEl := (hS.own 0 rfl).els (fun _ => rfl)
      -- region 13
      refine CW.region ?_
      refine LW.p (PEv.move (.tmp rfl)) rfl rfl rfl ?_
      refine LW.p (PEv.move (.tmp rfl)) rfl rfl rfl ?_
      refine LW.yes rfl rfl rfl rfl rfl rfl ?_
      refine LW.p (PEv.move (.tmp rfl)) rfl rfl rfl ?_
      refine LW.yes rfl rfl rfl rfl rfl rfl ?_
      refine LW.p (PEv.move (.tmp rfl)) rfl rfl rfl ?_
      refine LW.yes rfl rfl rfl rfl rfl rfl ?_
      refine LW.c (enter_call0 (.cons (.tmp rfl) (.cons (.tmp rfl) .nil)) (Try.en13)) rfl rfl rfl rfl (Of_any ad15 cp15 (fewL 40 l) d _ hEl (by omega)) ?_
      rintro _ w13 ⟨bc1, rfl, hC1, uw13⟩
      have zw13 := uw13.size
      replace hS := hS.up uw13
      refine LW.yes rfl rfl rfl rfl rfl rfl ?_
      refine LW.p (PEv.move (.tmp rfl)) rfl rfl rfl ?_
      refine LW.yes rfl rfl rfl rfl rfl rfl ?_
      refine LW.p (PEv.move (.tmp rfl)) rfl rfl rfl ?_
      refine LW.yes rfl rfl rfl rfl rfl rfl ?_
      refine LW.c (enter_call0 (.cons (.tmp rfl) (.cons (.tmp rfl) .nil)) (Try.en13)) rfl rfl rfl rfl (Of_any adv cpv M d _ ((hS.own 1 rfl).els (fun _ => rfl)) (by omega)) ?_
      rintro _ w14 ⟨bc2, rfl, hC2, uw14⟩
      have zw14 := uw14.size
      replace hS := hS.up uw14
      replace hC1 := hC1.up uw14
      refine LW.yes rfl rfl rfl rfl rfl rfl ?_
      refine LW.c (enter_call0 (.cons (.tmp rfl) (.cons (.tmp rfl) .nil)) (Try.en12)) rfl rfl rfl rfl (refSame_any _ _ (ofB (fewL 40 l) d) (ofB M d) _ hC1 hC2 (ofB_short (by omega) d)) ?_
      rintro _ w15 ⟨rfl, uw15⟩
      have zw15 := uw15.size
      replace hS := hS.up uw15
      replace hC1 := hC1.up uw15
      replace hC2 := hC2.up uw15
      rw [order_same hM]
      refine LW.p (PEv.pick_and (.tmp rfl) (fun hp => (by first | exact .const _ | exact .tmp rfl | exact .cond rfl (by first | assumption | simp_all)))) rfl rfl rfl ?_
      refine LW.p (PEv.assign (.tmp rfl)) rfl rfl rfl ?_
      refine LW.nil ?_
      refine KW.then ?_
      refine CW.ret ?_
      refine KW.ret1 rfl rfl ⟨_, rfl, ?_⟩
      exact ⟨rfl, hS.upd⟩

end Go.Proofs.Ytdelcaegofkknaa
