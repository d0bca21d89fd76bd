import Derived.Test.YtdelcaegofkknaaBa30
import Derived.Test.YtdelcaegofkknaaBv
namespace Go.Wx

theorem runF_lim : ∀ {fs : List Fld} {f g : Fact}, (∀ x ∈ fs, okOff x.off = true) → (fs.map (·.off)).Nodup → runF fs f = some g → ∀ x ∈ fs, x.lo ≤ getF f x.off ∧ getF f x.off ≤ x.hi
  | [], _, _, _, _, _ => fun x hx => by cases hx
  | x :: fs, f, g, hf, hn, h => by
    rw [List.map_cons, List.nodup_cons] at hn
    unfold runF at h
    split at h
    · cases h
    · rename_i hx
      intro y hy
      rcases List.mem_cons.1 hy with rfl | hy
      · exact ⟨by omega, by omega⟩
      · have := runF_lim (fun z hz => hf z (List.mem_cons_of_mem _ hz)) hn.2 h y hy
        rw [get_set (hf x List.mem_cons_self) (hf y (List.mem_cons_of_mem _ hy)), if_neg (fun e => hn.1 (List.mem_map.2 ⟨y, hy, e.symm⟩))] at this
        exact this
theorem valid_lim {f : Fact} {k : Int} (h : validB f = true) (hk : f.Kind = k) (hn : ((fieldsOf k).map (·.off)).Nodup) : ∀ x ∈ fieldsOf k, x.lo ≤ getF f x.off ∧ getF f x.off ≤ x.hi := by
  unfold validB at h
  rw [Bool.and_eq_true, Bool.and_eq_true] at h
  have h3 := h.2.2
  subst hk
  cases hr : runF (fieldsOf f.Kind) f with
  | none => rw [hr] at h3; cases h3
  | some g => exact runF_lim (fun x hx => (fields_lim f.Kind x hx).1) hn hr
theorem lst_mem {l : List Fact} {d : Int} {j : Nat} (hj : j < 11) {x : Fact} : x ∈ lstOf (ofB l d) j ↔ eff l d x ∧ x.Gone = false ∧ x.Kind = ((j + 1 : Nat) : Int) := by
  rw [lst_ofB l d hj]
  unfold lstAt
  rw [if_pos (List.mem_singleton.2 rfl), (sortK_sts _).same.mem, List.mem_filter, best_eff]
  simp
theorem eff_valid {l : List Fact} {d : Int} {x : Fact} (h : eff l d x) : validB x = true := keyB_valid h.2.1
theorem eff_key {l : List Fact} {d : Int} {x y : Fact} (hx : eff l d x) (hy : eff l d y) (e : keyB x = keyB y) : x = y := prev_total (eff_valid hx) (eff_valid hy) e (hy.2.2.2 x hx.1 hx.2.2.1) (hx.2.2.2 y hy.1 hy.2.2.1)
theorem proc_place {l : List Fact} {d : Int} {x : Fact} (h : x ∈ (ofB l d).Processes) : (0 ≤ x.Tool ∧ x.Tool < 60) ∧ 0 ≤ x.Chamber ∧ x.Chamber < 4 := by
  have h := (lst_mem (j := 0) (by decide)).1 (show x ∈ lstOf (ofB l d) 0 from h)
  have lim := valid_lim (k := 1) (eff_valid h.1) h.2.2 (by decide)
  have h1 := lim ⟨11, 0, 59⟩ (by simp [fieldsOf, shapeF, fPlace, fIds, num1])
  have h2 := lim ⟨12, 0, 3⟩ (by simp [fieldsOf, shapeF, fPlace, fIds, num1])
  have h1 : 0 ≤ x.Tool ∧ x.Tool ≤ 59 := h1
  have h2 : 0 ≤ x.Chamber ∧ x.Chamber ≤ 3 := h2
  omega
theorem proc_find {l : List Fact} {d : Int} {x : Fact} (h : x ∈ (ofB l d).Processes) : procB (ofB l d) x.ID = some x := by
  unfold procB
  cases e : (ofB l d).Processes.find? (fun f => decide (f.ID = x.ID)) with
  | none =>
    have := List.find?_eq_none.1 e x h
    simp at this
  | some y =>
    have h2 := List.find?_some e
    have h2 : y.ID = x.ID := of_decide_eq_true h2
    have hy := (lst_mem (j := 0) (by decide)).1 (show y ∈ lstOf (ofB l d) 0 from List.mem_of_find?_eq_some e)
    have hx := (lst_mem (j := 0) (by decide)).1 (show x ∈ lstOf (ofB l d) 0 from h)
    rw [eff_key hy.1 hx.1 (key_of_ord (k := 1) (eff_valid hy.1) (eff_valid hx.1) hy.2.2 hx.2.2 (by show (y.ID, (0 : Int)) = (x.ID, 0); rw [h2]))]
theorem runs_mem {b : Base} {t c : Int} {x : Fact} : x ∈ runsB b t c ↔ x ∈ b.Processes ∧ x.Tool = t ∧ x.Chamber = c := by
  unfold runsB
  rw [(sortK_sts _).same.mem, List.mem_filter]
  simp [runP]
theorem runs_len (b : Base) (t c : Int) : (runsB b t c).length = (b.Processes.filter (runP t c)).length := by unfold runsB; exact (sortK_sts _).same.length
theorem runs_order {b : Base} {t c : Int} {i : Nat} {x y : Fact} (hi : 0 < i) (hy : (runsB b t c)[i - 1]? = some y) (hx : (runsB b t c)[i]? = some x) : ¬ x.Time < y.Time := by
  have h : srt runK (runsB b t c) := (sortK_sts (key := runK) (b.Processes.filter (runP t c))).ord
  have h1 := List.pairwise_iff_getElem.1 h
  obtain ⟨l1, e1⟩ := List.getElem?_eq_some_iff.1 hy
  obtain ⟨l2, e2⟩ := List.getElem?_eq_some_iff.1 hx
  have := h1 (i - 1) i l1 l2 (by omega)
  rw [e1, e2] at this
  have := ltK_not.1 this
  unfold runK at this
  dsimp only at this
  omega
def cntP (t c : Int) (f : Fact) : Bool := decide (f.Tool < t) || (decide (f.Tool = t) && decide (f.Chamber < c))
def cnt (l : List Fact) (t c : Nat) : Nat := (l.filter (cntP t c)).length
theorem filter_split {p q r : Fact → Bool} : ∀ {l : List Fact}, (∀ x ∈ l, (r x = (p x || q x)) ∧ (p x && q x) = false) → (l.filter r).length = (l.filter p).length + (l.filter q).length
  | [], _ => rfl
  | x :: l, h => by
    have ih := filter_split (p := p) (q := q) (r := r) (l := l) (fun y hy => h y (List.mem_cons_of_mem _ hy))
    obtain ⟨h1, h2⟩ := h x List.mem_cons_self
    rw [List.filter_cons, List.filter_cons, List.filter_cons, h1]
    cases hp : p x <;> cases hq : q x <;> rw [hp, hq] at h2 <;> simp at h2 ⊢ <;> omega
theorem cnt_step (b : Base) (t c : Nat) : cnt b.Processes t c + (runsB b t c).length = cnt b.Processes t (c + 1) := by
  rw [runs_len]
  unfold cnt
  refine (filter_split fun x _ => ?_).symm
  unfold cntP runP
  constructor
  · rw [Bool.eq_iff_iff]; simp only [Bool.or_eq_true, Bool.and_eq_true, decide_eq_true_eq]; omega
  · rw [Bool.eq_false_iff]; simp only [ne_eq, Bool.or_eq_true, Bool.and_eq_true, decide_eq_true_eq]; omega
theorem filter_len_congr {p q : Fact → Bool} {l : List Fact} (h : ∀ x ∈ l, p x = q x) : (l.filter p).length = (l.filter q).length := by rw [List.filter_congr h]
theorem cnt_row {l : List Fact} {d : Int} (t : Nat) : cnt (ofB l d).Processes t 4 = cnt (ofB l d).Processes (t + 1) 0 := by
  unfold cnt
  refine filter_len_congr fun x hx => ?_
  have := proc_place hx
  unfold cntP
  rw [Bool.eq_iff_iff]; simp only [Bool.or_eq_true, Bool.and_eq_true, decide_eq_true_eq]; omega
theorem cnt_zero {l : List Fact} {d : Int} : cnt (ofB l d).Processes 0 0 = 0 := by
  unfold cnt
  rw [List.length_eq_zero_iff, List.filter_eq_nil_iff]
  intro x hx
  have := proc_place hx
  unfold cntP
  simp only [Bool.or_eq_true, Bool.and_eq_true, decide_eq_true_eq]; omega
theorem cnt_all {l : List Fact} {d : Int} : cnt (ofB l d).Processes 60 0 = (ofB l d).Processes.length := by
  unfold cnt
  rw [List.filter_eq_self.2 fun x hx => ?_]
  have := proc_place hx
  unfold cntP
  simp only [Bool.or_eq_true, Bool.and_eq_true, decide_eq_true_eq]; omega
/-- the loop over the targets -/
def tlStep (r t : Int) (s : Int × Int) (x : Fact) : Int × Int := if decide (x.Recipe = r) && decide (x.Time ≤ t) && decide (s.2 < x.Time) then (x.Value, x.Time) else s
def tlF (r t : Int) (l : List Fact) : Int × Int := l.foldl (tlStep r t) (0, -1)
theorem tl_yes {r t : Int} {s : Int × Int} {x : Fact} (h : (decide (x.Recipe = r) && decide (x.Time ≤ t) && decide (s.2 < x.Time)) = true) : tlStep r t s x = (x.Value, x.Time) := if_pos h
theorem tl_no {r t : Int} {s : Int × Int} {x : Fact} (h : (decide (x.Recipe = r) && decide (x.Time ≤ t) && decide (s.2 < x.Time)) = false) : tlStep r t s x = s := if_neg (by rw [h]; exact Bool.false_ne_true)
theorem tlF_take {r t : Int} {l : List Fact} {k : Nat} {x : Fact} (h : l[k]? = some x) : tlF r t (l.take (k + 1)) = tlStep r t (tlF r t (l.take k)) x := by
  rw [take_succ_of h, tlF, List.foldl_append]; rfl
def TRel (s : Fact × Bool) (u : Int × Int) : Prop := u.1 = s.1.Value ∧ ((s.2 = false ∧ u.2 = -1) ∨ (s.2 = true ∧ u.2 = s.1.Time ∧ 0 ≤ u.2))
theorem tl_rel (r t : Int) : ∀ (l : List Fact) (s : Fact × Bool) (u : Int × Int), (∀ x ∈ l, 0 ≤ x.Time) → TRel s u → TRel (l.foldl (tgStep r t) s) (l.foldl (tlStep r t) u)
  | [], _, _, _, h => h
  | x :: l, s, u, hx, h => by
    rw [List.foldl_cons, List.foldl_cons]
    refine tl_rel r t l _ _ (fun y hy => hx y (List.mem_cons_of_mem _ hy)) ?_
    have h0 := hx x List.mem_cons_self
    obtain ⟨h1, h2⟩ := h
    have e : (!s.2 || decide (s.1.Time < x.Time)) = decide (u.2 < x.Time) := by
      rcases h2 with ⟨a, c⟩ | ⟨a, c, _⟩
      · rw [a, c, decide_eq_true (by omega : (-1 : Int) < x.Time)]; rfl
      · rw [a, c]; rfl
    unfold tgStep tlStep
    rw [e]
    split
    · exact ⟨rfl, .inr ⟨rfl, rfl, h0⟩⟩
    · exact ⟨h1, h2⟩
theorem target_rel (l : List Fact) (d r t : Int) : TRel (tgF r t (ofB l d).Targets) (tlF r t (ofB l d).Targets) := by
  refine tl_rel r t _ _ _ (fun x hx => ?_) ⟨rfl, .inl ⟨rfl, rfl⟩⟩
  have h := (lst_mem (j := 9) (by decide)).1 (show x ∈ lstOf (ofB l d) 9 from hx)
  have lim := valid_lim (k := 10) (eff_valid h.1) h.2.2 (by decide)
  exact (lim ⟨5, 0, 1000000⟩ (by simp [fieldsOf, shapeF, fWhen, fRes, num1])).1

end Go.Wx
namespace Go.Proofs.Ytdelcaegofkknaa
open Go.Wx Go.RowKit
set_option maxHeartbeats 4000000 in
theorem BaseRuns_any (ad : Option Addr) (cp : Nat) (l : List Fact) (recipe time : Int) (w : World) (hE1 : Els w ad 19 Fact.cells l) (hrec : inI recipe) (htime : inI time) : Ret Try.prog 8 #[.slice ad l.length cp, vi recipe, vi time] w fun r w' => r = .bool true ∧ Up w w' := by
  have hW := Up.refl w
  obtain ⟨w0, rfl⟩ : ∃ w0, w0 = w := ⟨_, rfl⟩
  refine Calls_start (n := 167) (m := 9) Try.func8 rfl rfl rfl ?_
  refine CW.seq ?_
  -- region 0
  refine CW.region ?_
  refine LW.p (PEv.assign (.const _)) rfl rfl rfl ?_
  refine LW.nil ?_
  refine KW.then ?_
  refine CW.seq ?_
  -- region 1
  refine CW.region ?_
  refine LW.c (enter_call0 .nil (Try.en9)) rfl rfl rfl rfl (sane_any _) ?_
  rintro _ w1 ⟨rfl, uw1⟩
  have zw1 := uw1.size
  replace hW := hW.up uw1
  refine LW.p (PEv.assign (.tmp rfl)) rfl rfl rfl ?_
  refine LW.nil ?_
  refine KW.then ?_
  refine CW.seq ?_
  -- region 2
  refine CW.region ?_
  refine LW.p (PEv.move (.tmp rfl)) rfl rfl rfl ?_
  refine LW.c (enter_call0 (.cons (.tmp rfl) (.cons (.const _) .nil)) (Try.en10)) rfl rfl rfl rfl (few_any _ _ 40 l _ (Els.up hE1 hW) (by decide)) ?_
  rintro v26 w2 ⟨hO26, uw2⟩
  have zw2 := uw2.size
  replace hW := hW.up uw2
  obtain ⟨ad26, cp26, rfl, hEf0⟩ := hO26.sl (fun _ => rfl)
  have hEf : Els w2 ad26 19 Fact.cells (fewL 40 l) := hEf0
  clear hEf0 hO26
  refine LW.c (enter_call0 (.cons (.tmp rfl) (.cons (.const _) .nil)) (Try.en13)) rfl rfl rfl rfl (Of_any _ _ (fewL 40 l) 100000 _ hEf (by have := fewL_length 40 l; omega)) ?_
  rintro _ w3 ⟨bc, rfl, hC, uw3⟩
  have zw3 := uw3.size
  replace hW := hW.up uw3
  obtain ⟨b, eb⟩ : ∃ b, b = ofB (fewL 40 l) 100000 := ⟨_, rfl⟩
  rw [← eb] at hC
  have hsh : short b := by rw [eb]; exact ofB_short (by have := fewL_length 40 l; omega) _
  have hbs : b.Processes.length ≤ 100000 := hsh 0
  have hbt : b.Targets.length ≤ 100000 := hsh 9
  refine LW.r (REv.allocA Try.zeroValue31) rfl rfl rfl rfl ?_
  rintro _ w4 ⟨B8, rfl, MB8⟩
  refine LW.s (SEv.storeA Try.sizeOf31 (hC.size) (.tmp rfl) (.tmp rfl) (hC.one) MB8.blk rfl) rfl rfl rfl ?_
  intro w5 LB8
  have NB8 := MB8.set LB8
  clear LB8 MB8
  have eB8 := NB8.at_
  have zB8 := NB8.size
  replace hW := hW.up NB8.up
  replace hC := hC.up NB8.up
  have hB8 := NB8.blk
  refine LW.nil ?_
  refine KW.then ?_
  refine CW.seq ?_
  have h00 : cnt b.Processes 0 0 = 0 := by rw [eb]; exact cnt_zero
  -- region 3
  refine CW.region ?_
  refine LW.p (PEv.val (v' := vi ((cnt b.Processes 0 0 : Nat) : Int)) (PEv.assign (.const _)) (by rw [h00]; rfl)) rfl rfl rfl ?_
  refine LW.nil ?_
  refine KW.then ?_
  refine CW.seq ?_
  refine CW.seq ?_
  -- region 4
  refine CW.region ?_
  refine LW.p (PEv.assign (.const _)) rfl rfl rfl ?_
  refine LW.nil ?_
  refine KW.then ?_
  refine CW.block ?_
  refine CW.loopB (σ := Nat) (fun s w => (s ≤ 60) ∧ (Up w0 w) ∧ (Blk w B8 bc 31) ∧ (BaseC w bc b)) (fun s => [(10, .eq (vi (s : Int))), (9, .eq (vi ((cnt b.Processes s 0 : Nat) : Int)))]) ([(1, .eq _), (2, .eq _), (7, .eq _), (8, .eq _)]) (fun s => 60 - s) 0 ?_ ⟨rfl, rfl, rfl, rfl, rfl, rfl, trivial⟩ ?_
  · exact ⟨Nat.zero_le _, hW, hB8, hC⟩
  · rintro t w6 ⟨ht, hW, hB8, hC⟩
    refine CW.seq ?_
    refine CW.seq ?_
    -- region 5
    refine CW.region ?_
    refine LW.p (PEv.move (.tmp rfl)) rfl rfl rfl ?_
    refine LW.p (PEv.lss (.tmp rfl) (.const _)) rfl rfl rfl ?_
    refine LW.nil ?_
    refine KW.then ?_
    refine CW.cond (.tmp rfl) (fun h29 => ?_) (fun h29 => ?_)
    · first | replace h29 := of_decide_eq_true h29 | replace h29 := of_decide_eq_false h29 | skip
      refine CW.skip ?_
      refine KW.then ?_
      refine CW.seq ?_
      refine CW.block ?_
      refine CW.seq ?_
      -- region 7
      refine CW.region ?_
      refine LW.p (PEv.assign (.const _)) rfl rfl rfl ?_
      refine LW.nil ?_
      refine KW.then ?_
      refine CW.block ?_
      refine CW.loopB (σ := Nat) (fun s w => (s ≤ 4) ∧ (Up w0 w) ∧ (Blk w B8 bc 31) ∧ (BaseC w bc b)) (fun s => [(11, .eq (vi (s : Int))), (9, .eq (vi ((cnt b.Processes t s : Nat) : Int)))]) ([(1, .eq _), (2, .eq _), (7, .eq _), (8, .eq _), (10, .eq _)]) (fun s => 4 - s) 0 ?_ ⟨rfl, rfl, rfl, rfl, rfl, rfl, rfl, trivial⟩ ?_
      · exact ⟨Nat.zero_le _, hW, hB8, hC⟩
      · rintro c w7 ⟨hc, hW, hB8, hC⟩
        refine CW.seq ?_
        refine CW.seq ?_
        -- region 8
        refine CW.region ?_
        refine LW.p (PEv.move (.tmp rfl)) rfl rfl rfl ?_
        refine LW.p (PEv.lss (.tmp rfl) (.const _)) rfl rfl rfl ?_
        refine LW.nil ?_
        refine KW.then ?_
        refine CW.cond (.tmp rfl) (fun h33 => ?_) (fun h33 => ?_)
        · first | replace h33 := of_decide_eq_true h33 | replace h33 := of_decide_eq_false h33 | skip
          refine CW.skip ?_
          refine KW.then ?_
          refine CW.seq ?_
          refine CW.block ?_
          refine CW.seq ?_
          -- region 10
          refine CW.region ?_
          refine LW.p (PEv.loadA Try.isAgg31 Try.sizeOf31 (hC.size) (.tmp rfl) (hB8.agg)) rfl rfl rfl ?_
          refine LW.p (PEv.move (.tmp rfl)) rfl rfl rfl ?_
          refine LW.p (PEv.move (.tmp rfl)) rfl rfl rfl ?_
          refine LW.c (enter_call0 (.cons (.tmp rfl) (.cons (.tmp rfl) (.cons (.tmp rfl) .nil))) (Try.en22)) rfl rfl rfl rfl (Runs_any bc b (t : Int) (c : Int) _ hC hbs) ?_
          rintro v39 w8 ⟨hO39, uw8⟩
          have zw8 := uw8.size
          replace hW := hW.up uw8
          replace hB8 := hB8.up uw8
          replace hC := hC.up uw8
          obtain ⟨adr, cpr, rfl, hER0⟩ := hO39.sl (fun _ => rfl)
          have hER : Els w8 adr 19 Fact.cells (runsB b (t : Int) (c : Int)) := hER0
          clear hER0 hO39
          refine LW.p (PEv.assign (.tmp rfl)) rfl rfl rfl ?_
          refine LW.nil ?_
          refine KW.then ?_
          refine CW.seq ?_
          -- region 11
          refine CW.region ?_
          refine LW.p (PEv.assign (.const _)) rfl rfl rfl ?_
          refine LW.nil ?_
          refine KW.then ?_
          refine CW.block ?_
          refine CW.loopB (σ := Nat) (fun s w => (s ≤ (runsB b (t : Int) (c : Int)).length) ∧ (Up w0 w) ∧ (Blk w B8 bc 31) ∧ (BaseC w bc b) ∧ (Els w adr 19 Fact.cells (runsB b (t : Int) (c : Int)))) (fun s => [(13, .eq (vi (s : Int))), (9, .eq (vi ((cnt b.Processes t c + s : Nat) : Int)))]) ([(1, .eq _), (2, .eq _), (7, .eq _), (8, .eq _), (10, .eq _), (11, .eq _), (12, .eq _)]) (fun s => (runsB b (t : Int) (c : Int)).length - s) 0 ?_ ⟨rfl, rfl, rfl, rfl, rfl, rfl, rfl, rfl, rfl, trivial⟩ ?_
          · exact ⟨Nat.zero_le _, hW, hB8, hC, hER⟩
          · rintro i w9 ⟨hi, hW, hB8, hC, hER⟩
            refine CW.seq ?_
            refine CW.seq ?_
            -- region 12
            refine CW.region ?_
            refine LW.p (PEv.move (.tmp rfl)) rfl rfl rfl ?_
            refine LW.p (PEv.move (.tmp rfl)) rfl rfl rfl ?_
            refine LW.p (PEv.lenS Try.underlying22 (.tmp rfl)) rfl rfl rfl ?_
            refine LW.p (PEv.lss (.tmp rfl) (.tmp rfl)) rfl rfl rfl ?_
            refine LW.nil ?_
            refine KW.then ?_
            refine CW.cond (.tmp rfl) (fun h43 => ?_) (fun h43 => ?_)
            · first | replace h43 := of_decide_eq_true h43 | replace h43 := of_decide_eq_false h43 | skip
              refine CW.skip ?_
              refine KW.then ?_
              refine CW.seq ?_
              refine CW.block ?_
              refine CW.seq ?_
              obtain ⟨x, hx⟩ := getElem?_of_lt (xs := (runsB b (t : Int) (c : Int))) (i := i) (by omega)
              have hrl : (runsB b (t : Int) (c : Int)).length ≤ 100000 := by rw [runs_len]; exact Nat.le_trans (List.length_filter_le _ _) hbs
              have hcl : cnt b.Processes t c ≤ 100000 := Nat.le_trans (List.length_filter_le _ _) hbs
              obtain ⟨Bx, ox, ax, hcx⟩ := hER i x hx
              have hxp := runs_mem.1 (List.mem_of_getElem? hx)
              have hfind : procB b x.ID = some x := by rw [eb]; exact proc_find (by rw [← eb]; exact hxp.1)
              -- region 14 draws its order
              refine CW.boxU 13 10 11 8 14 54 (Fact.cells zeroF) [.eq (.agg bc), .eq (.slice adr (runsB b (t : Int) (c : Int)).length cpr), .eq (vi (i : Int)), .eq (.pointer (some ⟨Bx, ox + i * 19, none⟩)), .eq (.pointer (some ⟨Bx, ox + i * 19 + 1, none⟩)), .eq (vi x.ID), .eq (.tuple #[.agg x.cells, .bool true]), .eq (.tuple #[.agg x.cells, .bool true]), .eq (.agg x.cells), .eq (.bool true), .pred fun v _ => ∃ B, v = .pointer (some ⟨B, 0, none⟩), .eq undef, .eq (.bool true)] [15] Try.zeroValue28 Try.sizeOf28 (by kernel_rfl) rfl (by kernel_rfl) (by kernel_rfl) (by kernel_rfl) (by kernel_rfl) (by kernel_rfl) (by kernel_rfl) (by kernel_rfl) rfl rfl ⟨_, _, _, rfl⟩ _ rfl ⟨_, _, _, rfl⟩ ⟨PhT.eq _ _, PhT.eq _ _, PhT.eq _ _, PhT.eq _ _, PhT.eq _ _, PhT.eq _ _, PhT.eq _ _, PhT.eq _ _, PhT.eq _ _, PhT.eq _ _, PhT.pred fun _ _ _ h _ => h, PhT.eq _ _, PhT.eq _ _, trivial⟩ rfl (fun v W h => ⟨_, h, rfl, Fact.one x⟩) (fun B W => ⟨B, rfl⟩) ?_ ?_
              · intro W hU0
                have hU := (Up.drew w9).trans hU0
                refine allL.cons (.inr ⟨rfl, TU.p (PEv.loadA Try.isAgg31 Try.sizeOf31 hC.size (.tmp rfl) ((hB8.up hU).agg)) rfl⟩) ?_
                refine allL.cons (.inr ⟨rfl, TU.p (PEv.move (.tmp rfl)) rfl⟩) ?_
                refine allL.cons (.inr ⟨rfl, TU.p (PEv.move (.tmp rfl)) rfl⟩) ?_
                refine allL.cons (.inr ⟨rfl, TU.p (PEv.indexAddr' Try.underlying22 Try.sizeOf28 (.tmp rfl) (.tmp rfl) (by omega) ax) rfl⟩) ?_
                refine allL.cons (.inr ⟨rfl, TU.p (PEv.fieldAddr (off := 1) Try.underlying28 rfl rfl Try.sizeOf3 rfl (.tmp rfl)) rfl⟩) ?_
                refine allL.cons (.inr ⟨rfl, TU.p (PEv.load Try.isAgg3 (.tmp rfl) ((hcx.up hU).nth (j := 1) rfl)) rfl⟩) ?_
                refine allL.cons (.inr ⟨rfl, TU.c (enter_call0 (.cons (.tmp rfl) (.cons (.tmp rfl) .nil)) (Try.en23)) (Process_any bc b x.ID W (hC.up hU) hbs) (by rintro _ W1 ⟨rfl, u⟩; exact ⟨u, by rw [hfind]; rfl⟩)⟩) ?_
                refine allL.cons (.inr ⟨rfl, TU.p (PEv.move (.tmp rfl)) rfl⟩) ?_
                refine allL.cons (.inr ⟨rfl, TU.p (PEv.extract (.tmp rfl) rfl) rfl⟩) ?_
                refine allL.cons (.inr ⟨rfl, TU.p (PEv.extract (.tmp rfl) rfl) rfl⟩) ?_
                refine allL.cons (.inl (.inl rfl)) ?_
                refine allL.cons (.inl (.inr rfl)) ?_
                refine allL.cons (.inr ⟨rfl, TU.p (PEv.assign (.tmp rfl)) rfl⟩) ?_
                exact allL.nil
              · intro w10 B14 g hU0 hBn hB14 hg
                have hU := (Up.drew w9).trans hU0
                have zw10 := hU.size
                have h15 : g 15 = .bool true := hg 12 _ 15 (by decide) rfl rfl
                have h54 : g 54 = .agg x.cells := hg 8 _ 54 (by decide) rfl rfl
                rw [h54] at hB14
                replace hB14 : Blk w10 B14 x.cells 28 := hB14
                change LW _ _ _ _ _ _ _ _ ((14, _) :: (15, .eq (g 15)) :: _) _
                rw [h15]
                replace hW := hW.up hU
                replace hB8 := hB8.up hU
                replace hC := hC.up hU
                replace hER := hER.up hU
                replace hcx := hcx.up hU
                refine LW.nil ?_
                refine KW.then ?_
                refine CW.seq ?_
                refine CW.seq ?_
                obtain ⟨y, hy⟩ := getElem?_of_lt (xs := (runsB b (t : Int) (c : Int))) (i := i - 1) (by omega)
                obtain ⟨By, oy, ay, hcy⟩ := hER (i - 1) y hy
                cases hq15 : decide (0 < i) with
                | true =>
                  have hi0 := of_decide_eq_true hq15
                  obtain ⟨y, hy⟩ := getElem?_of_lt (xs := (runsB b (t : Int) (c : Int))) (i := i - 1) (by omega)
                  obtain ⟨By, oy, ay, hcy⟩ := hER (i - 1) y hy
                  -- region 15 draws its order
                  refine CW.draws (by kernel_rfl) (by kernel_rfl) rfl rfl ?_
                  refine HW.p (PEv.tr (PEv.move (.tmp rfl)) (rfl)) rfl rfl ?_
                  refine HW.p (PEv.not (.tmp rfl)) rfl rfl ?_
                  refine HW.p (PEv.move (.tmp rfl)) rfl rfl ?_
                  refine HW.yp rfl rfl rfl rfl rfl (PEv.loadA Try.isAgg28 Try.sizeOf28 rfl (.tmp rfl) (hB14.agg)) rfl ?_
                  refine HW.yp rfl rfl rfl rfl rfl (PEv.move (.tmp rfl)) rfl ?_
                  refine HW.yp rfl rfl rfl rfl rfl (PEv.move (.tmp rfl)) rfl ?_
                  refine HW.yp rfl rfl rfl rfl rfl (PEv.indexAddr' Try.underlying22 Try.sizeOf28 (.tmp rfl) (.tmp rfl) (by omega) ax) rfl ?_
                  refine HW.yp rfl rfl rfl rfl rfl (PEv.loadA Try.isAgg28 Try.sizeOf28 rfl (.tmp rfl) (hcx)) rfl ?_
                  refine HW.yp rfl rfl rfl rfl rfl (PEv.fa (PEv.neqA Try.eqGuardType28 (Try.eqFact _ _) (.tmp rfl) (.tmp rfl)) (by rw [eqb_refl]; rfl)) rfl ?_
                  refine HW.p (PEv.pick_or (.tmp rfl) (fun hp => (by first | exact .const _ | exact .tmp rfl | exact .cond rfl (by first | assumption | simp_all)))) rfl rfl ?_
                  refine HW.p (PEv.move (.tmp rfl)) rfl rfl ?_
                  refine HW.yp rfl rfl rfl rfl rfl (PEv.move (.tmp rfl)) rfl ?_
                  refine HW.yp rfl rfl rfl rfl rfl (PEv.move (.tmp rfl)) rfl ?_
                  refine HW.yp rfl rfl rfl rfl rfl (PEv.indexAddr' Try.underlying22 Try.sizeOf28 (.tmp rfl) (.tmp rfl) (by omega) ax) rfl ?_
                  refine HW.yp rfl rfl rfl rfl rfl (PEv.fieldAddr (off := 11) Try.underlying28 rfl rfl Try.sizeOf3 rfl (.tmp rfl)) rfl ?_
                  refine HW.yp rfl rfl rfl rfl rfl (PEv.load Try.isAgg3 (.tmp rfl) (hcx.nth (j := 11) rfl)) rfl ?_
                  refine HW.yp rfl rfl rfl rfl rfl (PEv.move (.tmp rfl)) rfl ?_
                  refine HW.yp rfl rfl rfl rfl rfl (PEv.fa (PEv.neq (.tmp rfl) (.tmp rfl)) (by simp [hxp.2.1])) rfl ?_
                  refine HW.p (PEv.pick_or (.tmp rfl) (fun hp => (by first | exact .const _ | exact .tmp rfl | exact .cond rfl (by first | assumption | simp_all)))) rfl rfl ?_
                  refine HW.p (PEv.move (.tmp rfl)) rfl rfl ?_
                  refine HW.yp rfl rfl rfl rfl rfl (PEv.move (.tmp rfl)) rfl ?_
                  refine HW.yp rfl rfl rfl rfl rfl (PEv.move (.tmp rfl)) rfl ?_
                  refine HW.yp rfl rfl rfl rfl rfl (PEv.indexAddr' Try.underlying22 Try.sizeOf28 (.tmp rfl) (.tmp rfl) (by omega) ax) rfl ?_
                  refine HW.yp rfl rfl rfl rfl rfl (PEv.fieldAddr (off := 12) Try.underlying28 rfl rfl Try.sizeOf3 rfl (.tmp rfl)) rfl ?_
                  refine HW.yp rfl rfl rfl rfl rfl (PEv.load Try.isAgg3 (.tmp rfl) (hcx.nth (j := 12) rfl)) rfl ?_
                  refine HW.yp rfl rfl rfl rfl rfl (PEv.move (.tmp rfl)) rfl ?_
                  refine HW.yp rfl rfl rfl rfl rfl (PEv.fa (PEv.neq (.tmp rfl) (.tmp rfl)) (by simp [hxp.2.2])) rfl ?_
                  refine HW.p (PEv.pick_or (.tmp rfl) (fun hp => (by first | exact .const _ | exact .tmp rfl | exact .cond rfl (by first | assumption | simp_all)))) rfl rfl ?_
                  refine HW.p (PEv.move (.tmp rfl)) rfl rfl ?_
                  refine HW.yp rfl rfl rfl rfl rfl (PEv.move (.tmp rfl)) rfl ?_
                  refine HW.yp rfl rfl rfl rfl rfl (PEv.tr (PEv.gtr (.tmp rfl) (.const _)) (decide_eq_true (by omega))) rfl ?_
                  refine HW.yp rfl rfl rfl rfl rfl (PEv.move (.tmp rfl)) rfl ?_
                  refine HW.yp rfl rfl rfl rfl rfl (PEv.move (.tmp rfl)) rfl ?_
                  refine HW.yp rfl rfl rfl rfl rfl (PEv.move (.tmp rfl)) rfl ?_
                  refine HW.yp rfl rfl rfl rfl rfl (PEv.indexAddr' Try.underlying22 Try.sizeOf28 (.tmp rfl) (.tmp rfl) (by omega) ax) rfl ?_
                  refine HW.yp rfl rfl rfl rfl rfl (PEv.fieldAddr (off := 5) Try.underlying28 rfl rfl Try.sizeOf3 rfl (.tmp rfl)) rfl ?_
                  refine HW.yp rfl rfl rfl rfl rfl (PEv.load Try.isAgg3 (.tmp rfl) (hcx.nth (j := 5) rfl)) rfl ?_
                  refine HW.yp rfl rfl rfl rfl rfl (PEv.move (.tmp rfl)) rfl ?_
                  refine HW.yp rfl rfl rfl rfl rfl (PEv.move (.tmp rfl)) rfl ?_
                  refine HW.yp rfl rfl rfl rfl rfl (PEv.dec (.tmp rfl) (by omega) (by omega)) rfl ?_
                  refine HW.yp rfl rfl rfl rfl rfl (PEv.indexAddr' Try.underlying22 Try.sizeOf28 (.tmp rfl) (.tmp rfl) (by omega) ay) rfl ?_
                  refine HW.yp rfl rfl rfl rfl rfl (PEv.fieldAddr (off := 5) Try.underlying28 rfl rfl Try.sizeOf3 rfl (.tmp rfl)) rfl ?_
                  refine HW.yp rfl rfl rfl rfl rfl (PEv.load Try.isAgg3 (.tmp rfl) (hcy.nth (j := 5) rfl)) rfl ?_
                  refine HW.yp rfl rfl rfl rfl rfl (PEv.fa (PEv.lss (.tmp rfl) (.tmp rfl)) (decide_eq_false (runs_order hi0 hy hx))) rfl ?_
                  refine HW.yp rfl rfl rfl rfl rfl (PEv.pick_and (.tmp rfl) (fun hp => (by first | exact .const _ | exact .tmp rfl | exact .cond rfl (by first | assumption | simp_all)))) rfl ?_
                  refine HW.p (PEv.fa (PEv.pick_or (.tmp rfl) (fun hp => (by first | exact .const _ | exact .tmp rfl | exact .cond rfl (by first | assumption | simp_all)))) (rfl)) rfl rfl ?_
                  refine HW.nil ?_
                  intro w11 uw11
                  have zw11 := uw11.size
                  replace hW := hW.up uw11
                  replace hB8 := hB8.up uw11
                  replace hC := hC.up uw11
                  replace hER := hER.up uw11
                  replace hB14 := hB14.up uw11
                  refine KW.then ?_
                  refine CW.cond_false (.tmp rfl) ?_
                  refine CW.skip ?_
                  refine KW.then ?_
                  -- region 17
                  refine CW.region ?_
                  refine LW.p (PEv.move (.tmp rfl)) rfl rfl rfl ?_
                  refine LW.p (PEv.inc (.tmp rfl) (by omega)) rfl rfl rfl ?_
                  refine LW.p (PEv.assign (.tmp rfl)) rfl rfl rfl ?_
                  refine LW.nil ?_
                  refine KW.inBlock ?_
                  refine KW.then ?_
                  -- region 13
                  refine CW.region ?_
                  refine LW.p (PEv.move (.tmp rfl)) rfl rfl rfl ?_
                  refine LW.p (PEv.inc (.tmp rfl) (by omega)) rfl rfl rfl ?_
                  refine LW.p (PEv.assign (.tmp rfl)) rfl rfl rfl ?_
                  refine LW.nil ?_
                  refine KW.round ?_
                  exact ⟨i + 1, ⟨by omega, hW, hB8, hC, hER⟩, ⟨rfl, rfl, rfl, rfl, rfl, rfl, rfl, rfl, rfl, trivial⟩, by first | omega | (dsimp only; omega)⟩
                | false =>
                  have hi0 := of_decide_eq_false hq15
                  obtain ⟨y, hy⟩ := getElem?_of_lt (xs := (runsB b (t : Int) (c : Int))) (i := i - 1) (by omega)
                  obtain ⟨By, oy, ay, hcy⟩ := hER (i - 1) y hy
                  -- region 15 draws its order
                  refine CW.draws (by kernel_rfl) (by kernel_rfl) rfl rfl ?_
                  refine HW.p (PEv.tr (PEv.move (.tmp rfl)) (rfl)) rfl rfl ?_
                  refine HW.p (PEv.not (.tmp rfl)) rfl rfl ?_
                  refine HW.p (PEv.move (.tmp rfl)) rfl rfl ?_
                  refine HW.yp rfl rfl rfl rfl rfl (PEv.loadA Try.isAgg28 Try.sizeOf28 rfl (.tmp rfl) (hB14.agg)) rfl ?_
                  refine HW.yp rfl rfl rfl rfl rfl (PEv.move (.tmp rfl)) rfl ?_
                  refine HW.yp rfl rfl rfl rfl rfl (PEv.move (.tmp rfl)) rfl ?_
                  refine HW.yp rfl rfl rfl rfl rfl (PEv.indexAddr' Try.underlying22 Try.sizeOf28 (.tmp rfl) (.tmp rfl) (by omega) ax) rfl ?_
                  refine HW.yp rfl rfl rfl rfl rfl (PEv.loadA Try.isAgg28 Try.sizeOf28 rfl (.tmp rfl) (hcx)) rfl ?_
                  refine HW.yp rfl rfl rfl rfl rfl (PEv.fa (PEv.neqA Try.eqGuardType28 (Try.eqFact _ _) (.tmp rfl) (.tmp rfl)) (by rw [eqb_refl]; rfl)) rfl ?_
                  refine HW.p (PEv.pick_or (.tmp rfl) (fun hp => (by first | exact .const _ | exact .tmp rfl | exact .cond rfl (by first | assumption | simp_all)))) rfl rfl ?_
                  refine HW.p (PEv.move (.tmp rfl)) rfl rfl ?_
                  refine HW.yp rfl rfl rfl rfl rfl (PEv.move (.tmp rfl)) rfl ?_
                  refine HW.yp rfl rfl rfl rfl rfl (PEv.move (.tmp rfl)) rfl ?_
                  refine HW.yp rfl rfl rfl rfl rfl (PEv.indexAddr' Try.underlying22 Try.sizeOf28 (.tmp rfl) (.tmp rfl) (by omega) ax) rfl ?_
                  refine HW.yp rfl rfl rfl rfl rfl (PEv.fieldAddr (off := 11) Try.underlying28 rfl rfl Try.sizeOf3 rfl (.tmp rfl)) rfl ?_
                  refine HW.yp rfl rfl rfl rfl rfl (PEv.load Try.isAgg3 (.tmp rfl) (hcx.nth (j := 11) rfl)) rfl ?_
                  refine HW.yp rfl rfl rfl rfl rfl (PEv.move (.tmp rfl)) rfl ?_
                  refine HW.yp rfl rfl rfl rfl rfl (PEv.fa (PEv.neq (.tmp rfl) (.tmp rfl)) (by simp [hxp.2.1])) rfl ?_
                  refine HW.p (PEv.pick_or (.tmp rfl) (fun hp => (by first | exact .const _ | exact .tmp rfl | exact .cond rfl (by first | assumption | simp_all)))) rfl rfl ?_
                  refine HW.p (PEv.move (.tmp rfl)) rfl rfl ?_
                  refine HW.yp rfl rfl rfl rfl rfl (PEv.move (.tmp rfl)) rfl ?_
                  refine HW.yp rfl rfl rfl rfl rfl (PEv.move (.tmp rfl)) rfl ?_
                  refine HW.yp rfl rfl rfl rfl rfl (PEv.indexAddr' Try.underlying22 Try.sizeOf28 (.tmp rfl) (.tmp rfl) (by omega) ax) rfl ?_
                  refine HW.yp rfl rfl rfl rfl rfl (PEv.fieldAddr (off := 12) Try.underlying28 rfl rfl Try.sizeOf3 rfl (.tmp rfl)) rfl ?_
                  refine HW.yp rfl rfl rfl rfl rfl (PEv.load Try.isAgg3 (.tmp rfl) (hcx.nth (j := 12) rfl)) rfl ?_
                  refine HW.yp rfl rfl rfl rfl rfl (PEv.move (.tmp rfl)) rfl ?_
                  refine HW.yp rfl rfl rfl rfl rfl (PEv.fa (PEv.neq (.tmp rfl) (.tmp rfl)) (by simp [hxp.2.2])) rfl ?_
                  refine HW.p (PEv.pick_or (.tmp rfl) (fun hp => (by first | exact .const _ | exact .tmp rfl | exact .cond rfl (by first | assumption | simp_all)))) rfl rfl ?_
                  refine HW.p (PEv.move (.tmp rfl)) rfl rfl ?_
                  refine HW.yp rfl rfl rfl rfl rfl (PEv.move (.tmp rfl)) rfl ?_
                  refine HW.yp rfl rfl rfl rfl rfl (PEv.fa (PEv.gtr (.tmp rfl) (.const _)) (decide_eq_false (by omega))) rfl ?_
                  refine HW.yp rfl rfl rfl rfl rfl (PEv.move (.tmp rfl)) rfl ?_
                  refine HW.no rfl rfl rfl rfl rfl rfl rfl ?_
                  refine HW.no rfl rfl rfl rfl rfl rfl rfl ?_
                  refine HW.no rfl rfl rfl rfl rfl rfl rfl ?_
                  refine HW.no rfl rfl rfl rfl rfl rfl rfl ?_
                  refine HW.no rfl rfl rfl rfl rfl rfl rfl ?_
                  refine HW.no rfl rfl rfl rfl rfl rfl rfl ?_
                  refine HW.no rfl rfl rfl rfl rfl rfl rfl ?_
                  refine HW.no rfl rfl rfl rfl rfl rfl rfl ?_
                  refine HW.no rfl rfl rfl rfl rfl rfl rfl ?_
                  refine HW.no rfl rfl rfl rfl rfl rfl rfl ?_
                  refine HW.no rfl rfl rfl rfl rfl rfl rfl ?_
                  refine HW.no rfl rfl rfl rfl rfl rfl rfl ?_
                  refine HW.yp rfl rfl rfl rfl rfl (PEv.pick_and (b := false) (.tmp rfl) (fun hp => absurd (show false = true from hp) (by decide))) rfl ?_
                  refine HW.p (PEv.fa (PEv.pick_or (.tmp rfl) (fun hp => (by first | exact .const _ | exact .tmp rfl | exact .cond rfl (by first | assumption | simp_all)))) (rfl)) rfl rfl ?_
                  refine HW.nil ?_
                  intro w12 uw12
                  have zw12 := uw12.size
                  replace hW := hW.up uw12
                  replace hB8 := hB8.up uw12
                  replace hC := hC.up uw12
                  replace hER := hER.up uw12
                  replace hB14 := hB14.up uw12
                  refine KW.then ?_
                  refine CW.cond_false (.tmp rfl) ?_
                  refine CW.skip ?_
                  refine KW.then ?_
                  -- region 17
                  refine CW.region ?_
                  refine LW.p (PEv.move (.tmp rfl)) rfl rfl rfl ?_
                  refine LW.p (PEv.inc (.tmp rfl) (by omega)) rfl rfl rfl ?_
                  refine LW.p (PEv.assign (.tmp rfl)) rfl rfl rfl ?_
                  refine LW.nil ?_
                  refine KW.inBlock ?_
                  refine KW.then ?_
                  -- region 13
                  refine CW.region ?_
                  refine LW.p (PEv.move (.tmp rfl)) rfl rfl rfl ?_
                  refine LW.p (PEv.inc (.tmp rfl) (by omega)) rfl rfl rfl ?_
                  refine LW.p (PEv.assign (.tmp rfl)) rfl rfl rfl ?_
                  refine LW.nil ?_
                  refine KW.round ?_
                  exact ⟨i + 1, ⟨by omega, hW, hB8, hC, hER⟩, ⟨rfl, rfl, rfl, rfl, rfl, rfl, rfl, rfl, rfl, trivial⟩, by first | omega | (dsimp only; omega)⟩
            · first | replace h43 := of_decide_eq_true h43 | replace h43 := of_decide_eq_false h43 | skip
              have he : i = (runsB b (t : Int) (c : Int)).length := by omega
              rw [he, cnt_step]
              refine CW.exit ?_
              refine KW.then_exit ?_
              refine KW.then_exit ?_
              refine KW.block_hit ?_
              refine KW.inBlock ?_
              refine KW.then ?_
              -- region 9
              refine CW.region ?_
              refine LW.p (PEv.move (.tmp rfl)) rfl rfl rfl ?_
              refine LW.p (PEv.inc (.tmp rfl) (by omega)) rfl rfl rfl ?_
              refine LW.p (PEv.assign (.tmp rfl)) rfl rfl rfl ?_
              refine LW.nil ?_
              refine KW.round ?_
              exact ⟨c + 1, ⟨by omega, hW, hB8, hC⟩, ⟨rfl, rfl, rfl, rfl, rfl, rfl, rfl, trivial⟩, by first | omega | (dsimp only; omega)⟩
        · first | replace h33 := of_decide_eq_true h33 | replace h33 := of_decide_eq_false h33 | skip
          have he : c = 4 := by omega
          subst he
          rw [show cnt b.Processes t 4 = cnt b.Processes (t + 1) 0 from by rw [eb]; exact cnt_row t]
          refine CW.exit ?_
          refine KW.then_exit ?_
          refine KW.then_exit ?_
          refine KW.block_hit ?_
          refine KW.inBlock ?_
          refine KW.then ?_
          -- region 6
          refine CW.region ?_
          refine LW.p (PEv.move (.tmp rfl)) rfl rfl rfl ?_
          refine LW.p (PEv.inc (.tmp rfl) (by omega)) rfl rfl rfl ?_
          refine LW.p (PEv.assign (.tmp rfl)) rfl rfl rfl ?_
          refine LW.nil ?_
          refine KW.round ?_
          exact ⟨t + 1, ⟨by omega, hW, hB8, hC⟩, ⟨rfl, rfl, rfl, rfl, rfl, rfl, trivial⟩, by first | omega | (dsimp only; omega)⟩
    · first | replace h29 := of_decide_eq_true h29 | replace h29 := of_decide_eq_false h29 | skip
      have he : t = 60 := by omega
      subst he
      rw [show cnt b.Processes 60 0 = b.Processes.length from by rw [eb]; exact cnt_all]
      refine CW.exit ?_
      refine KW.then_exit ?_
      refine KW.then_exit ?_
      refine KW.block_hit ?_
      refine KW.then ?_
      refine CW.seq ?_
      -- region 18
      refine CW.region ?_
      refine LW.p (PEv.move (.tmp rfl)) rfl rfl rfl ?_
      refine LW.c (enter_call0 (.cons (.tmp rfl) (.cons (.const _) .nil)) (Try.en11)) rfl rfl rfl rfl (pick_any _ _ _ (by decide)) ?_
      rintro _ w13 ⟨rfl, uw13⟩
      have zw13 := uw13.size
      replace hW := hW.up uw13
      replace hB8 := hB8.up uw13
      replace hC := hC.up uw13
      have hrp := pick_range (c := recipe) (n := 6) hrec (by decide)
      obtain ⟨rp, erp⟩ : ∃ rp, rp = pickI recipe 6 := ⟨_, rfl⟩
      rw [← erp] at hrp ⊢
      refine LW.p (PEv.add (.const _) (.tmp rfl) (by omega) (by omega)) rfl rfl rfl ?_
      refine LW.p (PEv.assign (.tmp rfl)) rfl rfl rfl ?_
      refine LW.nil ?_
      refine KW.then ?_
      refine CW.seq ?_
      -- region 19
      refine CW.region ?_
      refine LW.p (PEv.move (.tmp rfl)) rfl rfl rfl ?_
      refine LW.c (enter_call0 (.cons (.tmp rfl) (.cons (.const _) .nil)) (Try.en11)) rfl rfl rfl rfl (pick_any _ _ _ (by decide)) ?_
      rintro _ w14 ⟨rfl, uw14⟩
      have zw14 := uw14.size
      replace hW := hW.up uw14
      replace hB8 := hB8.up uw14
      replace hC := hC.up uw14
      have htt := pick_range (c := time) (n := 100) htime (by decide)
      obtain ⟨tt, ett⟩ : ∃ tt, tt = pickI time 100 := ⟨_, rfl⟩
      rw [← ett] at htt ⊢
      refine LW.p (PEv.assign (.tmp rfl)) rfl rfl rfl ?_
      refine LW.nil ?_
      refine KW.then ?_
      refine CW.seq ?_
      obtain ⟨rr, err⟩ : ∃ rr, rr = 1 + rp := ⟨_, rfl⟩
      rw [← err]
      -- region 20
      refine CW.region ?_
      refine LW.p (PEv.assign (.const _)) rfl rfl rfl ?_
      refine LW.nil ?_
      refine KW.then ?_
      refine CW.seq ?_
      -- region 21
      refine CW.region ?_
      refine LW.p (PEv.assign (.const _)) rfl rfl rfl ?_
      refine LW.nil ?_
      refine KW.then ?_
      refine CW.seq ?_
      refine CW.seq ?_
      -- region 22
      refine CW.region ?_
      refine LW.p (PEv.assign (.const _)) rfl rfl rfl ?_
      refine LW.nil ?_
      refine KW.then ?_
      refine CW.block ?_
      refine CW.loopB (σ := Nat × Int × Int) (fun s w => (s.1 ≤ b.Targets.length) ∧ (s.2 = tlF rr tt (b.Targets.take s.1)) ∧ (Up w0 w) ∧ (Blk w B8 bc 31) ∧ (BaseC w bc b)) (fun s => [(20, .eq (vi (s.1 : Int))), (18, .eq (vi s.2.1)), (19, .eq (vi s.2.2))]) ([(7, .eq _), (8, .eq _), (9, .eq _), (16, .eq _), (17, .eq _)]) (fun s => b.Targets.length - s.1) (0, 0, -1) ?_ ⟨rfl, rfl, rfl, rfl, rfl, rfl, rfl, rfl, trivial⟩ ?_
      · exact ⟨Nat.zero_le _, rfl, hW, hB8, hC⟩
      · rintro ⟨k, want, last⟩ w15 ⟨hk, hu, hW, hB8, hC⟩
        dsimp only at hk hu
        change CW _ _ _ _ _ _ _ ([(20, .eq (vi (k : Int))), (18, .eq (vi want)), (19, .eq (vi last))] ++ _) _
        refine CW.seq ?_
        refine CW.seq ?_
        obtain ⟨v9, h9, ad9, cp9, rfl, hE9⟩ := hC.at9
        -- region 23
        refine CW.region ?_
        refine LW.p (PEv.move (.tmp rfl)) rfl rfl rfl ?_
        refine LW.p (PEv.fieldAddr (off := 9) Try.underlying31 rfl rfl Try.sizeOf22 rfl (.tmp rfl)) rfl rfl rfl ?_
        refine LW.p (PEv.load Try.isAgg22 (.tmp rfl) (hB8.cell h9)) rfl rfl rfl ?_
        refine LW.p (PEv.lenS Try.underlying22 (.tmp rfl)) rfl rfl rfl ?_
        refine LW.p (PEv.lss (.tmp rfl) (.tmp rfl)) rfl rfl rfl ?_
        refine LW.nil ?_
        refine KW.then ?_
        refine CW.cond (.tmp rfl) (fun h113 => ?_) (fun h113 => ?_)
        · first | replace h113 := of_decide_eq_true h113 | replace h113 := of_decide_eq_false h113 | skip
          refine CW.skip ?_
          refine KW.then ?_
          refine CW.seq ?_
          refine CW.block ?_
          refine CW.seq ?_
          obtain ⟨x, hx⟩ := getElem?_of_lt (xs := b.Targets) (i := k) (by omega)
          obtain ⟨Bx, ox, ax, hcx⟩ := hE9 k x hx
          -- region 25
          refine CW.region ?_
          refine LW.p (PEv.fieldAddr (off := 9) Try.underlying31 rfl rfl Try.sizeOf22 rfl (.tmp rfl)) rfl rfl rfl ?_
          refine LW.p (PEv.load Try.isAgg22 (.tmp rfl) (hB8.cell h9)) rfl rfl rfl ?_
          refine LW.p (PEv.move (.tmp rfl)) rfl rfl rfl ?_
          refine LW.p (PEv.indexAddr' Try.underlying22 Try.sizeOf28 (.tmp rfl) (.tmp rfl) (by omega) ax) rfl rfl rfl ?_
          refine LW.p (PEv.loadA Try.isAgg28 Try.sizeOf28 rfl (.tmp rfl) (hcx)) rfl rfl rfl ?_
          refine LW.r (REv.allocA Try.zeroValue28) rfl rfl rfl rfl ?_
          rintro _ w16 ⟨B21, rfl, MB21⟩
          refine LW.s (SEv.storeA Try.sizeOf28 rfl (.tmp rfl) (.tmp rfl) (by first | rfl | exact Fact.one _ | exact GAct.one _ | exact holdCells_one _ _ | exact hold0_one | (simp [Value.oneCell'])) MB21.blk rfl) rfl rfl rfl ?_
          intro w17 LB21
          have NB21 := MB21.set LB21
          clear LB21 MB21
          have eB21 := NB21.at_
          have zB21 := NB21.size
          replace hW := hW.up NB21.up
          replace hB8 := hB8.up NB21.up
          replace hC := hC.up NB21.up
          have hB21 := NB21.blk
          refine LW.nil ?_
          refine KW.then ?_
          refine CW.seq ?_
          -- region 26
          refine CW.region ?_
          refine LW.p (PEv.fieldAddr (off := 14) Try.underlying28 rfl rfl Try.sizeOf3 rfl (.tmp rfl)) rfl rfl rfl ?_
          refine LW.p (PEv.load Try.isAgg3 (.tmp rfl) (hB21.celln rfl)) rfl rfl rfl ?_
          refine LW.p (PEv.move (.tmp rfl)) rfl rfl rfl ?_
          refine LW.p (PEv.eql (.tmp rfl) (.tmp rfl)) rfl rfl rfl ?_
          refine LW.p (PEv.move (.tmp rfl)) rfl rfl rfl ?_
          refine LW.g rfl rfl rfl rfl rfl rfl rfl (fun hc => PEv.fieldAddr (off := 5) Try.underlying28 rfl rfl Try.sizeOf3 rfl (.tmp rfl)) ?_
          refine LW.g rfl rfl rfl rfl rfl rfl rfl (fun hc => PEv.load Try.isAgg3 (by first | exact .tmp rfl | exact .cond rfl (by first | assumption | simp_all)) (hB21.celln rfl)) ?_
          refine LW.g rfl rfl rfl rfl rfl rfl rfl (fun hc => PEv.move (.tmp rfl)) ?_
          refine LW.g rfl rfl rfl rfl rfl rfl rfl (fun hc => PEv.leq (by first | exact .tmp rfl | exact .cond rfl (by first | assumption | simp_all)) (by first | exact .tmp rfl | exact .cond rfl (by first | assumption | simp_all))) ?_
          refine LW.p (PEv.pick_and (.tmp rfl) (fun hp => (by first | exact .const _ | exact .tmp rfl | exact .cond rfl (by first | assumption | simp_all)))) rfl rfl rfl ?_
          refine LW.p (PEv.move (.tmp rfl)) rfl rfl rfl ?_
          refine LW.g rfl rfl rfl rfl rfl rfl rfl (fun hc => PEv.fieldAddr (off := 5) Try.underlying28 rfl rfl Try.sizeOf3 rfl (.tmp rfl)) ?_
          refine LW.g rfl rfl rfl rfl rfl rfl rfl (fun hc => PEv.load Try.isAgg3 (by first | exact .tmp rfl | exact .cond rfl (by first | assumption | simp_all)) (hB21.celln rfl)) ?_
          refine LW.g rfl rfl rfl rfl rfl rfl rfl (fun hc => PEv.move (.tmp rfl)) ?_
          refine LW.g rfl rfl rfl rfl rfl rfl rfl (fun hc => PEv.gtr (by first | exact .tmp rfl | exact .cond rfl (by first | assumption | simp_all)) (by first | exact .tmp rfl | exact .cond rfl (by first | assumption | simp_all))) ?_
          refine LW.p (PEv.pick_and (.tmp rfl) (fun hp => (by first | exact .const _ | exact .tmp rfl | exact .cond rfl (by first | assumption | simp_all)))) rfl rfl rfl ?_
          refine LW.nil ?_
          refine KW.then ?_
          refine CW.cond (.tmp rfl) (fun h136 => ?_) (fun h136 => ?_)
          · first | replace h136 := of_decide_eq_true h136 | replace h136 := of_decide_eq_false h136 | skip
            refine CW.seq ?_
            -- region 27
            refine CW.region ?_
            refine LW.p (PEv.fieldAddr (off := 5) Try.underlying28 rfl rfl Try.sizeOf3 rfl (.tmp rfl)) rfl rfl rfl ?_
            refine LW.p (PEv.load Try.isAgg3 (.tmp rfl) (hB21.celln rfl)) rfl rfl rfl ?_
            refine LW.p (PEv.assign (.tmp rfl)) rfl rfl rfl ?_
            refine LW.nil ?_
            refine KW.then ?_
            -- region 28
            refine CW.region ?_
            refine LW.p (PEv.fieldAddr (off := 16) Try.underlying28 rfl rfl Try.sizeOf3 rfl (.tmp rfl)) rfl rfl rfl ?_
            refine LW.p (PEv.load Try.isAgg3 (.tmp rfl) (hB21.celln rfl)) rfl rfl rfl ?_
            refine LW.p (PEv.assign (.tmp rfl)) rfl rfl rfl ?_
            refine LW.nil ?_
            refine KW.inBlock ?_
            refine KW.then ?_
            -- region 24
            refine CW.region ?_
            refine LW.p (PEv.move (.tmp rfl)) rfl rfl rfl ?_
            refine LW.p (PEv.inc (.tmp rfl) (by omega)) rfl rfl rfl ?_
            refine LW.p (PEv.assign (.tmp rfl)) rfl rfl rfl ?_
            refine LW.nil ?_
            refine KW.round ?_
            first | exact ⟨(k + 1, x.Value, x.Time), ⟨by show k + 1 ≤ _; omega, by rw [tlF_take hx, ← hu]; exact (tl_yes (by simpa using h136)).symm, hW, hB8, hC⟩, ⟨rfl, rfl, rfl, rfl, rfl, rfl, rfl, rfl, trivial⟩, by show b.Targets.length - (k + 1) < b.Targets.length - k; omega⟩ | exact ⟨(k + 1, want, last), ⟨by show k + 1 ≤ _; omega, by rw [tlF_take hx, ← hu]; exact (tl_no (by simpa using h136)).symm, hW, hB8, hC⟩, ⟨rfl, rfl, rfl, rfl, rfl, rfl, rfl, rfl, trivial⟩, by show b.Targets.length - (k + 1) < b.Targets.length - k; omega⟩
          · first | replace h136 := of_decide_eq_true h136 | replace h136 := of_decide_eq_false h136 | skip
            refine CW.skip ?_
            refine KW.inBlock ?_
            refine KW.then ?_
            -- region 24
            refine CW.region ?_
            refine LW.p (PEv.move (.tmp rfl)) rfl rfl rfl ?_
            refine LW.p (PEv.inc (.tmp rfl) (by omega)) rfl rfl rfl ?_
            refine LW.p (PEv.assign (.tmp rfl)) rfl rfl rfl ?_
            refine LW.nil ?_
            refine KW.round ?_
            first | exact ⟨(k + 1, x.Value, x.Time), ⟨by show k + 1 ≤ _; omega, by rw [tlF_take hx, ← hu]; exact (tl_yes (by simpa using h136)).symm, hW, hB8, hC⟩, ⟨rfl, rfl, rfl, rfl, rfl, rfl, rfl, rfl, trivial⟩, by show b.Targets.length - (k + 1) < b.Targets.length - k; omega⟩ | exact ⟨(k + 1, want, last), ⟨by show k + 1 ≤ _; omega, by rw [tlF_take hx, ← hu]; exact (tl_no (by simpa using h136)).symm, hW, hB8, hC⟩, ⟨rfl, rfl, rfl, rfl, rfl, rfl, rfl, rfl, trivial⟩, by show b.Targets.length - (k + 1) < b.Targets.length - k; omega⟩
        · first | replace h113 := of_decide_eq_true h113 | replace h113 := of_decide_eq_false h113 | skip
          refine CW.exit ?_
          refine KW.then_exit ?_
          refine KW.then_exit ?_
          refine KW.block_hit ?_
          refine KW.then ?_
          refine CW.seq ?_
          -- region 29
          refine CW.region ?_
          refine LW.p (PEv.loadA Try.isAgg31 Try.sizeOf31 (hC.size) (.tmp rfl) (hB8.agg)) rfl rfl rfl ?_
          refine LW.p (PEv.move (.tmp rfl)) rfl rfl rfl ?_
          refine LW.p (PEv.move (.tmp rfl)) rfl rfl rfl ?_
          refine LW.c (enter_call0 (.cons (.tmp rfl) (.cons (.tmp rfl) (.cons (.tmp rfl) .nil))) (Try.en24)) rfl rfl rfl rfl (Target_any bc b rr tt _ hC hbt) ?_
          rintro _ w18 ⟨rfl, uw18⟩
          have zw18 := uw18.size
          replace hW := hW.up uw18
          replace hB8 := hB8.up uw18
          replace hC := hC.up uw18
          refine LW.p (PEv.move (.tmp rfl)) rfl rfl rfl ?_
          refine LW.p (PEv.extract (.tmp rfl) rfl) rfl rfl rfl ?_
          refine LW.p (PEv.extract (.tmp rfl) rfl) rfl rfl rfl ?_
          refine LW.p (PEv.assign (.tmp rfl)) rfl rfl rfl ?_
          refine LW.p (PEv.assign (.tmp rfl)) rfl rfl rfl ?_
          refine LW.nil ?_
          refine KW.then ?_
          refine CW.seq ?_
          obtain ⟨v0, h0, ad0, cp0, rfl, hE0⟩ := hC.at0
          have hkl : k = b.Targets.length := by omega
          rw [hkl, List.take_length] at hu
          have hrel : TRel (tgF rr tt b.Targets) (want, last) := by rw [hu, eb]; exact target_rel _ _ _ _
          have hgot : (tgF rr tt b.Targets).1.Value = want := hrel.1.symm
          have hfound : (tgF rr tt b.Targets).2 = decide (0 ≤ last) := by rcases hrel.2 with ⟨e1, e2⟩ | ⟨e1, _, e3⟩; exact e1.trans (decide_eq_false (by rw [show last = -1 from e2]; decide)).symm; exact e1.trans (decide_eq_true e3).symm
          -- region 30
          refine CW.region ?_
          refine LW.p (PEv.move (.tmp rfl)) rfl rfl rfl ?_
          refine LW.p (PEv.move (.tmp rfl)) rfl rfl rfl ?_
          refine LW.yes rfl rfl rfl rfl rfl rfl ?_
          refine LW.p (PEv.move (.tmp rfl)) rfl rfl rfl ?_
          refine LW.yes rfl rfl rfl rfl rfl rfl ?_
          refine LW.p (PEv.fieldAddr (off := 0) Try.underlying31 rfl rfl Try.sizeOf22 rfl (.tmp rfl)) rfl rfl rfl ?_
          refine LW.yes rfl rfl rfl rfl rfl rfl ?_
          refine LW.p (PEv.load Try.isAgg22 (.tmp rfl) (hB8.cell h0)) rfl rfl rfl ?_
          refine LW.yes rfl rfl rfl rfl rfl rfl ?_
          refine LW.p (PEv.lenS Try.underlying22 (.tmp rfl)) rfl rfl rfl ?_
          refine LW.yes rfl rfl rfl rfl rfl rfl ?_
          refine LW.p (PEv.tr (PEv.eql (.tmp rfl) (.tmp rfl)) (by simp)) rfl rfl rfl ?_
          refine LW.p (PEv.pick_and (.tmp rfl) (fun hp => (by first | exact .const _ | exact .tmp rfl | exact .cond rfl (by first | assumption | simp_all)))) rfl rfl rfl ?_
          refine LW.p (PEv.move (.tmp rfl)) rfl rfl rfl ?_
          refine LW.yes rfl rfl rfl rfl rfl rfl ?_
          refine LW.p (PEv.move (.tmp rfl)) rfl rfl rfl ?_
          refine LW.yes rfl rfl rfl rfl rfl rfl ?_
          refine LW.p (PEv.move (.tmp rfl)) rfl rfl rfl ?_
          refine LW.yes rfl rfl rfl rfl rfl rfl ?_
          refine LW.p (PEv.geq (.tmp rfl) (.const _)) rfl rfl rfl ?_
          refine LW.yes rfl rfl rfl rfl rfl rfl ?_
          refine LW.p (PEv.tr (PEv.eqlB Try.underlying4 (.tmp rfl) (.tmp rfl)) (by rw [hfound]; simp)) rfl rfl rfl ?_
          refine LW.p (PEv.pick_and (.tmp rfl) (fun hp => (by first | exact .const _ | exact .tmp rfl | exact .cond rfl (by first | assumption | simp_all)))) rfl rfl rfl ?_
          refine LW.p (PEv.move (.tmp rfl)) rfl rfl rfl ?_
          refine LW.yes rfl rfl rfl rfl rfl rfl ?_
          refine LW.p (PEv.move (.tmp rfl)) rfl rfl rfl ?_
          refine LW.yes rfl rfl rfl rfl rfl rfl ?_
          refine LW.p (PEv.move (.tmp rfl)) rfl rfl rfl ?_
          refine LW.yes rfl rfl rfl rfl rfl rfl ?_
          refine LW.p (PEv.tr (PEv.eql (.tmp rfl) (.tmp rfl)) (by rw [hgot]; simp)) rfl rfl rfl ?_
          refine LW.p (PEv.pick_and (.tmp rfl) (fun hp => (by first | exact .const _ | exact .tmp rfl | exact .cond rfl (by first | assumption | simp_all)))) rfl rfl rfl ?_
          refine LW.p (PEv.assign (.tmp rfl)) rfl rfl rfl ?_
          refine LW.nil ?_
          refine KW.then ?_
          refine CW.ret ?_
          refine KW.ret1 rfl rfl ⟨_, rfl, ?_⟩
          exact ⟨rfl, hW⟩

end Go.Proofs.Ytdelcaegofkknaa
