import Derived.Test.YtbbpkdlehlamlaaGreatDoorKR416
import Derived.DeepKeys4
section
namespace Go.Wx
structure Grp where
 t : Int
 c : Int
 r : Int
deriving DecidableEq
def Grp.cells (g : Grp) : Array Go.Value := #[vi g.t, vi g.c, vi g.r]
theorem Grp.one (g : Grp) : g.cells.all (·.oneCell') = true := by simp [Grp.cells, Value.oneCell']
def Grp.ok (g : Grp) : Prop := inI g.t ∧ inI g.c ∧ inI g.r
def grpK : Mk.KT Grp where
 vk g := .agg g.cells
 ok g := g.ok
 inj {a b} h := by
   obtain ⟨a1, a2, a3⟩ := a
   obtain ⟨b1, b2, b3⟩ := b
   simp only [Grp.cells, Value.agg.injEq, Array.mk.injEq, List.cons.injEq, Value.int.injEq, true_and, and_true] at h
   obtain ⟨rfl, rfl, rfl⟩ := h
   rfl
def gof (f : Fact) : Grp := ⟨f.Tool, f.Chamber, f.Recipe⟩
def grpEqB (a b : Grp) : Bool := (a.t == b.t) && ((a.c == b.c) && ((a.r == b.r) && true))
theorem grpEqB_eq (a b : Grp) : grpEqB a b = decide (a = b) := by
 obtain ⟨a1, a2, a3⟩ := a
 obtain ⟨b1, b2, b3⟩ := b
 unfold grpEqB
 rw [Bool.eq_iff_iff]
 simp
end Go.Wx
namespace Go.Proofs.YtbbpkdlehlamlaaGreatDoor
open Go.Proofs.Tryz
open Go.Wx Go.RowKit
theorem laidOut_ : laidOutB prog = true := by kernel_rfl
theorem grpRow : (96 : TypeId) < prog.types.size := of_decide_eq_true kQ
theorem grpKey : prog.keyType 96 = true := by kernel_rfl
theorem grpDeep : 3 ≤ prog.types.size := of_decide_eq_true kQ
theorem cellsOfG : prog.cellsOf 96 = 3 := by kernel_rfl
theorem cellsOfI : prog.cellsOf 3 = 1 := by kernel_rfl
theorem inI_wf {i : Int} (h : inI i) : (Lit.int .i64 i).wf = true := by
 obtain ⟨h1, h2⟩ := h
 have e1 : IntKind.i64.min = -9223372036854775808 := by decide
 have e2 : IntKind.i64.max = 9223372036854775807 := by decide
 show (decide (IntKind.i64.min ≤ i) && decide (i ≤ IntKind.i64.max)) = true
 rw [e1, e2, decide_eq_true h1, decide_eq_true h2]
 rfl
theorem grpKeyOf (s : Grp) (h : s.ok) : ∃ l, keyOf prog 96 (grpK.vk s) = some l := by
 obtain ⟨l, r, p⟩ := s
 obtain ⟨h1, h2, h3⟩ := h
 have e1 := inI_wf h1
 have e2 := inI_wf h2
 have e3 := inI_wf h3
 obtain ⟨m, hm⟩ : ∃ m, prog.types.size + 1 = m + 4 := ⟨prog.types.size - 3, by have := grpDeep; omega⟩
 unfold keyOf
 simp only [underlying96]
 rw [if_pos (by simp [grpKey, Value.formed, underlying96, cellsOfG, grpK, Grp.cells]), hm]
 simp [Program.keyLits, underlying96, underlying3, cellsOfG, cellsOfI, grpK, Grp.cells, Value.cells, e1, e2, e3]
 try rw [if_pos (fun i hi => match i, hi with | 0, _ => by simp | 1, _ => by simp | 2, _ => by simp)]
 try exact ⟨_, rfl⟩
theorem grpLaw : grpK.Law prog 96 := Mk.KT.Law.of (deep_law_laid laidOut_ (m := 3) oQ grpRow kQ (by rw [underlying96])) grpKeyOf
set_option maxRecDepth 4000 in
theorem Tryz.eqGrp (a b : Grp) (w : World) : (Op.equalIn 10000 96 (.agg a.cells) (.agg b.cells)).run prog w = .ok (decide (a = b)) w := by
 have hf : prog.underlying 96 = some (.struct (prog.fieldsOf 96)) := by rw [Program.fieldsOf, underlying96]
 rw [run_equalIn_agg w 9999 96 _ _ hf stoodInHeld96, ← grpEqB_eq]
 have h : (Op.eqFields 9999 a.cells b.cells (prog.fieldsOf 96).toList).run prog w = .ok (grpEqB a b) w := by
   rw [Program.fieldsOf, underlying96]
   dsimp only
   iterate 3 (refine eqStep cQ isAgg3 rfl rfl (run_equalIn_int w 9998 _ _ _ _ _ underlying3) ?_)
   rfl
 exact h
end Go.Proofs.YtbbpkdlehlamlaaGreatDoor
end
section
namespace Go.Wx
theorem kindK (k : Int) : (k = 1 ∨ k = 2 ∨ k = 9 ∨ k = 10) ∨ (k ≠ 1 ∧ k ≠ 2 ∧ k ≠ 9 ∧ k ≠ 10) := by omega
end Go.Wx
namespace Go.Proofs.YtbbpkdlehlamlaaGreatDoor
open Go.Proofs.Tryz
open Go.Wx Go.RowKit
theorem gof_any (f : Fact) (w : World) : Ret prog 76 #[.agg f.cells] w fun r w' => r = .agg (gof f).cells ∧ Up w w' := by
 obtain ⟨w0, rfl⟩ : ∃ w0, w0 = w := ⟨_, rfl⟩
 have hS := Sep.start no w0
 refine cS (n := 10) (m := 9) func76 rfl rfl rfl (CW.S (LW.rr (.boxA (.t rfl)) rfl ?_))
 rintro _ w1 ⟨B1, rfl, NB1⟩
 replace hS := hS.addB NB1
 refine LW.rr (.allocA zeroValue96) rfl ?_
 rintro _ w2 ⟨B2, rfl, NB2⟩
 replace hS := hS.addB NB2
 refine LW.S (CW.region (LW.pp (.fA 11 underlying24 rfl sizeOf3 rfl) (LW.pp (.ld isAgg3 rfl ((hS.blk 0 rfl).celln rfl)) (LW.pp (.fA 12 underlying24 rfl sizeOf3 rfl) (LW.pp (.ld isAgg3 rfl ((hS.blk 0 rfl).celln rfl)) (LW.pp (.fA 14 underlying24 rfl sizeOf3 rfl) (LW.pp (.ld isAgg3 rfl ((hS.blk 0 rfl).celln rfl)) (LW.pp (.build (cs := (gof f).cells) underlying96 zeroValue96 Tryz.places96 (.cons (.t rfl) (.cons (.t rfl) (.cons (.t rfl) .nil))) rfl) (LW.E (.storeA sizeOf96 rfl (.t rfl) (.t rfl) (Grp.one _) (hS.blk 1 rfl) rfl) ?_)))))))))
 intro w3 Nw3
 replace hS := hS.putB 1 rfl Nw3
 refine LW.T (CW.ret (KW.retA rfl rfl isAgg96 sizeOf96 rfl ((hS.blk 1 rfl).agg) ⟨_, rfl, ?_⟩))
 exact ⟨rfl, hS.upd⟩
theorem pro1_any (g : Grp) (Bf : Nat) (f : Fact) (w : World) (hF : Blk w Bf f.cells 24) : Ret prog 163 #[.agg g.cells, .pointer (some ⟨Bf, 0, none⟩)] w fun r w' => r = .bool (decide (g = gof f)) ∧ Up w w' := by
 have hW := Up.refl w
 refine cS (n := 8) (m := 9) func163 rfl rfl rfl (CW.S (LW.rr (.boxA (.t rfl)) rfl ?_))
 rintro _ w1 ⟨B2, rfl, NB2⟩
 replace hF := hF.up NB2.up
 replace hW := hW.up NB2.up
 have hB2 := NB2.blk
 refine LW.C (LW.S (CW.draws kQ kQ rfl rfl (HW.pp (.la isAgg96 sizeOf96 rfl (hB2.agg)) (HW.pp (.la isAgg24 sizeOf24 rfl (hF.agg)) (HW.c (fun a w _ ha => enter_call0 (.cons (.t rfl) .nil) (en76) a ha) rfl rfl (fun w hu => gof_any f w) (HW.pp (.eqlA eqGuardType96 (Tryz.eqGrp _ _) (.t rfl) (.t rfl)) (HW.pp (.assign (.t rfl)) (HW.nil ?_))))))))
 intro w2 uw2
 replace hF := hF.up uw2
 replace hW := hW.up uw2
 replace hB2 := hB2.up uw2
 refine KW.then (CW.ret (KW.ret1 rfl rfl ⟨_, rfl, ?_⟩))
 exact ⟨rfl, hW⟩
theorem res1_any (g : Grp) (Bf : Nat) (f : Fact) (w : World) (hF : Blk w Bf f.cells 24) : Ret prog 164 #[.agg g.cells, .pointer (some ⟨Bf, 0, none⟩)] w fun r w' => r = .bool (decide (g.t = f.Tool) && decide (g.c = f.Chamber)) ∧ Up w w' := by
 have hW := Up.refl w
 refine cS (n := 16) (m := 9) func164 rfl rfl rfl (CW.S (LW.rr (.boxA (.t rfl)) rfl ?_))
 rintro _ w1 ⟨B2, rfl, NB2⟩
 replace hF := hF.up NB2.up
 replace hW := hW.up NB2.up
 have hB2 := NB2.blk
 refine LW.C (LW.S (CW.region (LW.pp (.fA 0 underlying96 rfl sizeOf3 rfl) (LW.pp (.ld isAgg3 rfl (hB2.celln rfl)) (LW.pp (.fA 11 underlying24 rfl sizeOf3 rfl) (LW.pp (.ld isAgg3 rfl (hF.celln rfl)) (LW.pp (.eql (.t rfl) (.t rfl)) (LW.M rfl (LW.g rfl rfl rfl rfl rfl rfl rfl (fun hc => PEv.fA 1 underlying96 rfl sizeOf3 rfl) (LW.g rfl rfl rfl rfl rfl rfl rfl (fun hc => PEv.load isAgg3 vQ (hB2.celln rfl)) (LW.g rfl rfl rfl rfl rfl rfl rfl (fun hc => PEv.fA 12 underlying24 rfl sizeOf3 rfl) (LW.g rfl rfl rfl rfl rfl rfl rfl (fun hc => PEv.load isAgg3 vQ (hF.celln rfl)) (LW.g rfl rfl rfl rfl rfl rfl rfl (fun hc => PEv.eql vQ vQ) (LW.pp (.pick_and (.t rfl) (fun hp => (by exact .cond rfl (by simp_all)))) (LW.A rfl (LW.T (CW.ret (KW.ret1 rfl rfl ⟨_, rfl, ?_⟩))))))))))))))))))
 exact ⟨rfl, hW⟩
theorem tar1_any (g : Grp) (Bf : Nat) (f : Fact) (w : World) (hF : Blk w Bf f.cells 24) : Ret prog 165 #[.agg g.cells, .pointer (some ⟨Bf, 0, none⟩)] w fun r w' => r = .bool (decide (g.r = f.Recipe)) ∧ Up w w' := by
 have hW := Up.refl w
 refine cS (n := 9) (m := 9) func165 rfl rfl rfl (CW.S (LW.rr (.boxA (.t rfl)) rfl ?_))
 rintro _ w1 ⟨B2, rfl, NB2⟩
 replace hF := hF.up NB2.up
 replace hW := hW.up NB2.up
 have hB2 := NB2.blk
 refine LW.C (LW.S (CW.region (LW.pp (.fA 2 underlying96 rfl sizeOf3 rfl) (LW.pp (.ld isAgg3 rfl (hB2.celln rfl)) (LW.pp (.fA 14 underlying24 rfl sizeOf3 rfl) (LW.pp (.ld isAgg3 rfl (hF.celln rfl)) (LW.pp (.eql (.t rfl) (.t rfl)) (LW.A rfl (LW.T (CW.ret (KW.ret1 rfl rfl ⟨_, rfl, ?_⟩)))))))))))
 exact ⟨rfl, hW⟩
def byKV (k : Int) : Go.Value := if k = 1 then .func (.func 79) #[] #[] else if k = 2 then .func (.func 80) #[] #[] else if k = 9 then .func (.func 81) #[] #[] else if k = 10 then .func (.func 82) #[] #[] else .nilFunc
theorem byKV_no {k : Int} (h : k ≠ 1 ∧ k ≠ 2 ∧ k ≠ 9 ∧ k ≠ 10) : byKV k = .nilFunc := by
 obtain ⟨h1, h2, h3, h4⟩ := h
 unfold byKV
 rw [if_neg h1, if_neg h2, if_neg h3, if_neg h4]
theorem byKind_any (k : Int) (w : World) : Ret prog 43 #[vi k] w fun r w' => r = byKV k ∧ Up w w' := by
 have hW := Up.refl w
 refine cS (n := 7) (m := 9) func43 rfl rfl rfl (CW.S (LW.C (LW.S (CW.region (LW.r REv.makeMap rfl rfl rfl rfl ?_)))))
 rintro _ w1 ⟨B3, rfl, MB3, uB3, eB3, zB3⟩
 replace hW := hW.up uB3
 have hM3 := MB3
 refine LW.E (.insert (k := 1) (v := .func (.func 79) #[] #[]) underlying156 underlying3 (.t rfl) (.const _) (.func _) hM3) ?_
 rintro w2 ⟨Mw2, Kw2, zw2⟩
 replace hM3 : IMap w2 B3 [(1, .func (.func 79) #[] #[])] := Mw2
 replace hW := hW.sto Kw2 oQ
 refine LW.E (.insert (k := 2) (v := .func (.func 80) #[] #[]) underlying156 underlying3 (.t rfl) (.const _) (.func _) hM3) ?_
 rintro w3 ⟨Mw3, Kw3, zw3⟩
 replace hM3 : IMap w3 B3 [(1, .func (.func 79) #[] #[]), (2, .func (.func 80) #[] #[])] := Mw3
 replace hW := hW.sto Kw3 oQ
 refine LW.E (.insert (k := 9) (v := .func (.func 81) #[] #[]) underlying156 underlying3 (.t rfl) (.const _) (.func _) hM3) ?_
 rintro w4 ⟨Mw4, Kw4, zw4⟩
 replace hM3 : IMap w4 B3 [(1, .func (.func 79) #[] #[]), (2, .func (.func 80) #[] #[]), (9, .func (.func 81) #[] #[])] := Mw4
 replace hW := hW.sto Kw4 oQ
 refine LW.E (.insert (k := 10) (v := .func (.func 82) #[] #[]) underlying156 underlying3 (.t rfl) (.const _) (.func _) hM3) ?_
 rintro w5 ⟨Mw5, Kw5, zw5⟩
 replace hM3 : IMap w5 B3 [(1, .func (.func 79) #[] #[]), (2, .func (.func 80) #[] #[]), (9, .func (.func 81) #[] #[]), (10, .func (.func 82) #[] #[])] := Mw5
 replace hW := hW.sto Kw5 oQ
 refine LW.M rfl (LW.M rfl ?_)
 rcases kindK k with (rfl | rfl | rfl | rfl) | hkn
 ·skip
  refine LW.pp (.lookupYes (ok := false) (v := .func (.func 79) #[] #[]) underlying156 underlying3 (.t rfl) (.t rfl) hM3 (by simp)) (LW.A rfl (LW.T (CW.ret (KW.ret1 rfl rfl ⟨_, rfl, ?_⟩))))
  exact ⟨rfl, hW⟩
 ·skip
  refine LW.pp (.lookupYes (ok := false) (v := .func (.func 80) #[] #[]) underlying156 underlying3 (.t rfl) (.t rfl) hM3 (by simp)) (LW.A rfl (LW.T (CW.ret (KW.ret1 rfl rfl ⟨_, rfl, ?_⟩))))
  exact ⟨rfl, hW⟩
 ·skip
  refine LW.pp (.lookupYes (ok := false) (v := .func (.func 81) #[] #[]) underlying156 underlying3 (.t rfl) (.t rfl) hM3 (by simp)) (LW.A rfl (LW.T (CW.ret (KW.ret1 rfl rfl ⟨_, rfl, ?_⟩))))
  exact ⟨rfl, hW⟩
 ·skip
  refine LW.pp (.lookupYes (ok := false) (v := .func (.func 82) #[] #[]) underlying156 underlying3 (.t rfl) (.t rfl) hM3 (by simp)) (LW.A rfl (LW.T (CW.ret (KW.ret1 rfl rfl ⟨_, rfl, ?_⟩))))
  exact ⟨rfl, hW⟩
 skip
 refine LW.pp (.lookupNo (ok := false) underlying156 underlying3 zeroValue93 (.t rfl) (.t rfl) hM3 (by obtain ⟨h1, h2, h3, h4⟩ := hkn; simp only [List.map_cons, List.map_nil, List.mem_cons, List.not_mem_nil, or_false]; omega)) (LW.A rfl (LW.T (CW.ret (KW.ret1 rfl rfl ⟨_, rfl, ?_⟩))))
 exact ⟨(byKV_no hkn).symm, hW⟩
end Go.Proofs.YtbbpkdlehlamlaaGreatDoor
end
section
namespace Go.Wx
def unG (s : Grp) : Grp × Value := (s, .agg #[])
def addG (L : List Grp) (s : Grp) : List Grp := if s ∈ L then L else L ++ [s]
theorem unG_keys (L : List Grp) : (L.map unG).map (·.1) = L := by rw [List.map_map]; exact List.map_id _
theorem unG_mem {L : List Grp} {s : Grp} {v : Value} (h : (s, v) ∈ L.map unG) : s ∈ L ∧ v = .agg #[] := by
 obtain ⟨x, hx, e⟩ := List.mem_map.1 h
 cases e
 exact ⟨hx, rfl⟩
theorem mset_unG (L : List Grp) (s : Grp) : Mk.mset (L.map unG) s (.agg #[]) = (addG L s).map unG := by
 unfold Mk.mset addG
 rw [unG_keys]
 split
 · rw [List.map_map]
   refine List.map_congr_left fun x _ => ?_
   show (if x = s then (s, Value.agg #[]) else unG x) = unG x
   split
   · rename_i e; rw [e]; rfl
   rfl
 rw [List.map_append]; rfl
theorem PEv.lookupG {P : Program} {n : Nat} {ds : List Deferred} {l : Env} {w : World} {d : Option Tmp} {ty : TypeId} {ps : String} {af : Array Edge} {g : Option (Nat × Bool)} {T K E : TypeId} {mo x : Operand} {b : Nat} {s : Grp} {L : List Grp} (hT : P.underlying T = some (.map K E)) (hK : grpK.Law P K) (hko : s.ok) (hz : ∀ w, (zeroValue E).run P w = .ok (.agg #[]) w) (hm : Val l mo (.map (some b))) (hx : Val l x (.agg s.cells)) (h : Mk.IMap grpK w b (L.map unG)) :
   PEv P n ds l w ⟨d, .lookup T mo x true, ty, ps, af, g⟩ (.tuple #[.agg #[], .bool (decide (s ∈ L))]) := by
 by_cases hs : s ∈ L
 · rw [decide_eq_true hs]
   exact Mk.PEv.lookupYes (Q := grpK) (ok := true) (v := .agg #[]) hT hK hko hm hx h (List.mem_map.2 ⟨s, hs, rfl⟩)
 rw [decide_eq_false hs]
 exact Mk.PEv.lookupNo (Q := grpK) (ok := true) hT hK hko hz hm hx h (by rw [unG_keys]; exact hs)
def EC (bf : Nat) (bc : Array Go.Value) (bd : Nat) (n : Int) : Array Go.Value := #[.map (some bf)] ++ bc ++ #[.map (some bd), vi n]
theorem EC_dec {bf bd : Nat} {bc : Array Go.Value} {n : Int} (h : bc.size = 11) : (EC bf bc bd n)[12]? = some (.map (some bd)) := by
 unfold EC
 rw [Array.getElem?_append_right (by simp [h])]
 simp [h]
theorem EC_work {bf bd : Nat} {bc : Array Go.Value} {n : Int} (h : bc.size = 11) : (EC bf bc bd n)[13]? = some (vi n) := by
 unfold EC
 rw [Array.getElem?_append_right (by simp [h])]
 simp [h]
theorem EC_facts {bf bd : Nat} {bc : Array Go.Value} {n : Int} : (EC bf bc bd n)[0]? = some (.map (some bf)) := by
 unfold EC
 rw [Array.getElem?_append_left (by simp; omega), Array.getElem?_append_left (by simp)]
 rfl
theorem EC_size {bf bd : Nat} {bc : Array Go.Value} {n : Int} (h : bc.size = 11) : (EC bf bc bd n).size = 14 := by unfold EC; simp [h]
theorem EC_known {w : World} {E bf bd : Nat} {bc : Array Go.Value} {n : Int} {T : TypeId} (hE : Blk w E (EC bf bc bd n) T) : AggAt w E 1 bc := fun j v hv => by
 have hj := (Array.getElem?_eq_some_iff.1 hv).1
 refine hE.cell (o := 1 + j) ?_
 unfold EC
 rw [Array.getElem?_append_left (by simp; omega), Array.getElem?_append_right (by simp)]
 simpa using hv
theorem EC_lst {w : World} {E bf bd : Nat} {bc : Array Go.Value} {n : Int} {T : TypeId} (hE : Blk w E (EC bf bc bd n) T) {j : Nat} {v : Go.Value} (hv : bc[j]? = some v) : w.cell? ⟨E, 1 + j, none⟩ = some v := EC_known hE j v hv
theorem okG {w : World} {b : Nat} {kv : List (Grp × Go.Value)} (h : Mk.IMap grpK w b kv) {p : Grp × Go.Value} (hp : p ∈ kv) : p.1.ok := by
 obtain ⟨es, clock, h1, h2, h3, ho⟩ := h
 exact ho p hp
theorem addG_mem (L : List Grp) (s v : Grp) : v ∈ addG L s ↔ v ∈ L ∨ v = s := by
 unfold addG
 split
 · rename_i h
   exact ⟨.inl, fun e => e.elim id fun e => e ▸ h⟩
 rw [List.mem_append, List.mem_singleton]
theorem mark_yes {T St V : List Grp} {p : Grp → Bool} {k : Grp} (h : ∀ g, g ∈ T ↔ g ∈ St ∨ (g ∈ V ∧ p g = true)) (hp : p k = true) : ∀ g, g ∈ addG T k ↔ g ∈ St ∨ (g ∈ V ++ [k] ∧ p g = true) := fun g => by
 rw [addG_mem, h g, List.mem_append, List.mem_singleton]
 constructor
 · rintro ((h1 | h1) | rfl)
   · exact .inl h1
   · exact .inr ⟨.inl h1.1, h1.2⟩
   exact .inr ⟨.inr rfl, hp⟩
 rintro (h1 | ⟨h1 | rfl, h2⟩)
 · exact .inl (.inl h1)
 · exact .inl (.inr ⟨h1, h2⟩)
 exact .inr rfl
theorem mark_no {T St V : List Grp} {p : Grp → Bool} {k : Grp} (h : ∀ g, g ∈ T ↔ g ∈ St ∨ (g ∈ V ∧ p g = true)) (hp : p k = false) : ∀ g, g ∈ T ↔ g ∈ St ∨ (g ∈ V ++ [k] ∧ p g = true) := fun g => by
 rw [h g, List.mem_append, List.mem_singleton]
 constructor
 · rintro (h1 | h1)
   · exact .inl h1
   exact .inr ⟨.inl h1.1, h1.2⟩
 rintro (h1 | ⟨h1 | rfl, h2⟩)
 · exact .inl h1
 · exact .inr ⟨h1, h2⟩
 rw [hp] at h2; cases h2
end Go.Wx
namespace Go.Proofs.YtbbpkdlehlamlaaGreatDoor
open Go.Proofs.Tryz
open Go.Wx Go.RowKit
theorem mark_any (cf : Nat) (lb : Array Go.Value) (p : Grp → Bool) (hen : ∀ args w, (callFunc cf args).run prog w = .ok (.enter cf args) w) (E bf bd bs : Nat) (bc : Array Go.Value) (n : Int) (kv : List (Grp × Go.Value)) (St : List Grp) (w : World) (hE : Blk w E (EC bf bc bd n) 80) (hbc : bc.size = 11) (hEn : ¬ footL [Mk.aIMap grpK bd kv, Mk.aIMap grpK bs (List.map unG St)] E) (hS0 : Wx.Sep (footL [Mk.aIMap grpK bd kv, Mk.aIMap grpK bs (List.map unG St)]) w w [Mk.aIMap grpK bd kv, Mk.aIMap grpK bs (List.map unG St)]) (hp : ∀ W, Fr (footL [Mk.aIMap grpK bd kv, Mk.aIMap grpK bs (List.map unG St)]) w W → ∀ g, Ret prog cf (#[.agg (Grp.cells g)] ++ lb) W fun r W' => r = .bool (p g) ∧ Up W W') : Ret prog 162 #[.agg #[.pointer (some ⟨E, 0, none⟩), .map (some bs)], .func (.func cf) #[] lb] w fun r w' => ∃ St', r = .tuple #[] ∧ Wx.Sep (footL [Mk.aIMap grpK bd kv, Mk.aIMap grpK bs (List.map unG St)]) w w' [Mk.aIMap grpK bd kv, Mk.aIMap grpK bs (List.map unG St')] ∧ ∀ g, g ∈ St' ↔ g ∈ St ∨ (g ∈ kv.map (·.1) ∧ p g = true) := by
 obtain ⟨w0, rfl⟩ : ∃ w0, w0 = w := ⟨_, rfl⟩
 have hS := hS0
 refine cS (n := 22) (m := 9) func162 rfl rfl rfl (CW.S (LW.rr (.boxA (.t rfl)) rfl ?_))
 rintro _ w1 ⟨B2, rfl, NB2⟩
 replace hS := hS.addB NB2
 refine LW.S (CW.region (LW.pp (.fA 0 underlying92 rfl sizeOf28 rfl) (LW.pp (.ld isAgg28 rfl ((hS.blk 2 rfl).celln rfl)) (LW.pp (.nilCheck (.t rfl)) (LW.pp (.fA 12 underlying80 rfl sizeOf78 rfl) (LW.pp (.ld isAgg78 rfl ((hE.frz hS.fr hEn).cell (EC_dec hbc))) (LW.rr (Mk.REv.range (Q := grpK) underlying78 (.t rfl) (hS.get 0 rfl)) rfl ?_)))))))
 rintro _ w2 ⟨r10, rfl, hR_, uR, eR, zR⟩
 replace hS := hS.stp 0 rfl (Mk.stp_range hR_ uR eR)
 refine LW.T (CW.block (CW.loopB (σ := List Grp × List Grp) (fun s w => (s.1.Nodup ∧ ∀ k ∈ s.1, k ∈ kv.map (·.1)) ∧ (∀ g, g ∈ s.2 ↔ g ∈ St ∨ (g ∈ s.1 ∧ p g = true)) ∧ (Wx.Sep (footL [Mk.aIMap grpK bd kv, Mk.aIMap grpK bs (List.map unG St)]) w0 w [Mk.aIRng grpK bd r10 kv s.1, Mk.aIMap grpK bs (s.2.map unG), aBlk B2 #[.pointer (some ⟨E, 0, none⟩), .map (some bs)] 92])) (fun s => []) ([(1, .eq _), (2, .eq _), (10, .eq _)]) (fun s => kv.length - s.1.length) ([], St) ?_ ⟨rfl, rfl, rfl, trivial⟩ ?_))
 ·exact ⟨⟨List.nodup_nil, fun _ h => (by cases h)⟩, fun g => ⟨.inl, fun h => h.elim id (fun h => (by cases h.1))⟩, hS⟩
 rintro ⟨V, T⟩ w3 ⟨hV, hTm, hS⟩
 refine CW.S (LW.rr (Mk.REv.next (.t rfl) (hS.get 0 rfl)) rfl ?_)
 rintro _ w4 (⟨rfl, rfl, hPm⟩ | ⟨k0, u0, rfl, hNx⟩)
 ·skip
  refine LW.pp (.extract (.t rfl) rfl) (LW.S (CW.cond_false (.t rfl) (CW.exit (KW.then_exit (KW.then_exit (KW.block_hit (KW.end0 rfl ⟨_, rfl, ?_⟩)))))))
  have hS2 := hS.stp 0 rfl (Mk.stp_rngEnd (hS.get 0 rfl))
  exact ⟨T, rfl, hS2.take 2, fun g => by rw [hTm g, hPm.mem_iff]⟩
 skip
 have zw4 := hNx.size
 replace hS := hS.stp 0 rfl (Mk.stp_next hNx)
 have hk0m : k0 ∈ kv.map (·.1) := List.mem_map.2 ⟨_, hNx.mem, rfl⟩
 have hko := okG hNx.rng.map hNx.mem
 have hf0 := hNx.fresh
 have hV2 : (V ++ [k0]).Nodup ∧ ∀ k ∈ V ++ [k0], k ∈ kv.map (·.1) := ⟨List.nodup_append.2 ⟨hV.1, by simp, fun a ha c hc => by simp at hc; subst hc; exact fun e => hf0 (e ▸ ha)⟩, fun k hk => (List.mem_append.1 hk).elim (hV.2 k) (fun h => by cases List.mem_singleton.1 h; exact hk0m)⟩
 have hVl := hV2.1.length_le_of_subset hV2.2
 rw [List.length_append, List.length_singleton, List.length_map] at hVl
 refine LW.pp (.extract (.t rfl) rfl) (LW.S (CW.cond_true (.t rfl) (CW.skip (KW.then (CW.block (CW.S (LW.rr (.entry (.t rfl) hNx.entry) rfl ?_)))))))
 rintro _ _ ⟨rfl, rfl⟩
 refine LW.pp (.extract (.t rfl) rfl) (LW.rr (.allocA zeroValue96) rfl ?_)
 rintro _ w5 ⟨B4, rfl, MB4⟩
 refine LW.E (.storeA sizeOf96 rfl (.t rfl) (.t rfl) (Grp.one _) MB4.blk rfl) ?_
 intro w6 LB4
 have NB4 := MB4.set LB4
 replace hS := hS.addB NB4
 refine LW.S (CW.region (LW.M rfl (LW.pp (.la isAgg96 sizeOf96 rfl ((hS.blk 3 rfl).agg)) (LW.K (enter_call (.t rfl) (.cons (.t rfl) .nil) (hen)) rfl (hp _ hS.fr k0) ?_))))
 rintro _ w7 ⟨rfl, uw7⟩
 replace hS := hS.up uw7
 refine LW.T (CW.cond (.t rfl) (fun h17 => ?_) (fun h17 => ?_))
 ·have hpk : p k0 = true := by simpa using h17
  refine CW.region (LW.pp (.fA 1 underlying92 rfl sizeOf90 rfl) (LW.pp (.ld isAgg90 rfl ((hS.blk 2 rfl).celln rfl)) (LW.pp (.la isAgg96 sizeOf96 rfl ((hS.blk 3 rfl).agg)) (LW.pp (.build (cs := #[]) underlying84 zeroValue84 Tryz.places84 .nil rfl) (LW.E (Mk.SEv.mapUpdate (Q := grpK) underlying90 grpLaw hko (.t rfl) (.t rfl) (.t rfl) (hS.get 1 rfl)) ?_)))))
  rintro w8 ⟨Mu, Ku, zu⟩
  rw [mset_unG] at Mu
  replace hS := hS.stp 1 rfl (Mk.stp_set Mu Ku)
  refine LW.nil (KW.inBlock (KW.round ?_))
  exact ⟨(V ++ [k0], addG T k0), ⟨hV2, mark_yes hTm hpk, hS.take 3⟩, ⟨rfl, rfl, rfl, trivial⟩, by show kv.length - (V ++ [k0]).length < kv.length - V.length; rw [List.length_append, List.length_singleton]; omega⟩
 have hpk : p k0 = false := by simpa using h17
 refine CW.skip (KW.inBlock (KW.round ?_))
 exact ⟨(V ++ [k0], T), ⟨hV2, mark_no hTm hpk, hS.take 3⟩, ⟨rfl, rfl, rfl, trivial⟩, by show kv.length - (V ++ [k0]).length < kv.length - V.length; rw [List.length_append, List.length_singleton]; omega⟩
theorem process_any (f : Fact) (E bf bd bs : Nat) (bc : Array Go.Value) (n : Int) (kv : List (Grp × Go.Value)) (St : List Grp) (w : World) (hE : Blk w E (EC bf bc bd n) 80) (hbc : bc.size = 11) (hEn : ¬ footL [Mk.aIMap grpK bd kv, Mk.aIMap grpK bs (List.map unG St)] E) (hS0 : Wx.Sep (footL [Mk.aIMap grpK bd kv, Mk.aIMap grpK bs (List.map unG St)]) w w [Mk.aIMap grpK bd kv, Mk.aIMap grpK bs (List.map unG St)]) : Ret prog 79 #[.agg #[.pointer (some ⟨E, 0, none⟩), .map (some bs)], .agg f.cells] w fun r w' => ∃ St', r = .tuple #[] ∧ Wx.Sep (footL [Mk.aIMap grpK bd kv, Mk.aIMap grpK bs (List.map unG St)]) w w' [Mk.aIMap grpK bd kv, Mk.aIMap grpK bs (List.map unG St')] ∧ ∀ g, g ∈ St' ↔ g ∈ St ∨ (g ∈ kv.map (·.1) ∧ decide (g = gof f) = true) := by
 obtain ⟨w0, rfl⟩ : ∃ w0, w0 = w := ⟨_, rfl⟩
 have hS := hS0
 refine cS (n := 7) (m := 9) func79 rfl rfl rfl (CW.S (LW.rr (.boxA (.t rfl)) rfl ?_))
 rintro _ w1 ⟨B2, rfl, NB2⟩
 replace hS := hS.addB NB2
 refine LW.rr (.boxA (.t rfl)) rfl ?_
 rintro _ w2 ⟨B3, rfl, NB3⟩
 replace hS := hS.addB NB3
 refine LW.T (CW.region (LW.pp (.la isAgg92 sizeOf92 rfl ((hS.blk 2 rfl).agg)) (LW.pp (.makeFunc (.cons (.t rfl) .nil)) ?_)))
 replace hS := hS.pull 0 rfl
 replace hS := hS.pull 0 rfl
 have hq_ := (show Wx.Sep _ _ _ ([_, _] ++ [_, _]) from hS)
 refine LW.K (eC (.u rfl rfl) (en162)) rfl (mark_any 163 _ (fun g => decide (g = gof f)) en163 E bf bd bs bc n kv St _ (hE.frz hS.fr hEn) hbc hEn hq_.right.self (fun W hW g => pro1_any g B3 f W ((hS.blk 1 rfl).frz hW (hq_.dis ⟨_, List.mem_cons_of_mem _ List.mem_cons_self, rfl⟩)))) ?_
 rintro _ w3 ⟨St2, rfl, uw3, hmem⟩
 replace hS := hq_.frame uw3
 refine LW.nil (KW.end0 rfl ⟨_, rfl, ?_⟩)
 exact ⟨St2, rfl, hS.sub (.cons _ (.cons _ (List.Sublist.refl _))), hmem⟩
theorem reset_any (f : Fact) (E bf bd bs : Nat) (bc : Array Go.Value) (n : Int) (kv : List (Grp × Go.Value)) (St : List Grp) (w : World) (hE : Blk w E (EC bf bc bd n) 80) (hbc : bc.size = 11) (hEn : ¬ footL [Mk.aIMap grpK bd kv, Mk.aIMap grpK bs (List.map unG St)] E) (hS0 : Wx.Sep (footL [Mk.aIMap grpK bd kv, Mk.aIMap grpK bs (List.map unG St)]) w w [Mk.aIMap grpK bd kv, Mk.aIMap grpK bs (List.map unG St)]) : Ret prog 81 #[.agg #[.pointer (some ⟨E, 0, none⟩), .map (some bs)], .agg f.cells] w fun r w' => ∃ St', r = .tuple #[] ∧ Wx.Sep (footL [Mk.aIMap grpK bd kv, Mk.aIMap grpK bs (List.map unG St)]) w w' [Mk.aIMap grpK bd kv, Mk.aIMap grpK bs (List.map unG St')] ∧ ∀ g, g ∈ St' ↔ g ∈ St ∨ (g ∈ kv.map (·.1) ∧ (decide (g.t = f.Tool) && decide (g.c = f.Chamber)) = true) := by
 obtain ⟨w0, rfl⟩ : ∃ w0, w0 = w := ⟨_, rfl⟩
 have hS := hS0
 refine cS (n := 7) (m := 9) func81 rfl rfl rfl (CW.S (LW.rr (.boxA (.t rfl)) rfl ?_))
 rintro _ w1 ⟨B2, rfl, NB2⟩
 replace hS := hS.addB NB2
 refine LW.rr (.boxA (.t rfl)) rfl ?_
 rintro _ w2 ⟨B3, rfl, NB3⟩
 replace hS := hS.addB NB3
 refine LW.T (CW.region (LW.pp (.la isAgg92 sizeOf92 rfl ((hS.blk 2 rfl).agg)) (LW.pp (.makeFunc (.cons (.t rfl) .nil)) ?_)))
 replace hS := hS.pull 0 rfl
 replace hS := hS.pull 0 rfl
 have hq_ := (show Wx.Sep _ _ _ ([_, _] ++ [_, _]) from hS)
 refine LW.K (eC (.u rfl rfl) (en162)) rfl (mark_any 164 _ (fun g => (decide (g.t = f.Tool) && decide (g.c = f.Chamber))) en164 E bf bd bs bc n kv St _ (hE.frz hS.fr hEn) hbc hEn hq_.right.self (fun W hW g => res1_any g B3 f W ((hS.blk 1 rfl).frz hW (hq_.dis ⟨_, List.mem_cons_of_mem _ List.mem_cons_self, rfl⟩)))) ?_
 rintro _ w3 ⟨St2, rfl, uw3, hmem⟩
 replace hS := hq_.frame uw3
 refine LW.nil (KW.end0 rfl ⟨_, rfl, ?_⟩)
 exact ⟨St2, rfl, hS.sub (.cons _ (.cons _ (List.Sublist.refl _))), hmem⟩
theorem target_any (f : Fact) (E bf bd bs : Nat) (bc : Array Go.Value) (n : Int) (kv : List (Grp × Go.Value)) (St : List Grp) (w : World) (hE : Blk w E (EC bf bc bd n) 80) (hbc : bc.size = 11) (hEn : ¬ footL [Mk.aIMap grpK bd kv, Mk.aIMap grpK bs (List.map unG St)] E) (hS0 : Wx.Sep (footL [Mk.aIMap grpK bd kv, Mk.aIMap grpK bs (List.map unG St)]) w w [Mk.aIMap grpK bd kv, Mk.aIMap grpK bs (List.map unG St)]) : Ret prog 82 #[.agg #[.pointer (some ⟨E, 0, none⟩), .map (some bs)], .agg f.cells] w fun r w' => ∃ St', r = .tuple #[] ∧ Wx.Sep (footL [Mk.aIMap grpK bd kv, Mk.aIMap grpK bs (List.map unG St)]) w w' [Mk.aIMap grpK bd kv, Mk.aIMap grpK bs (List.map unG St')] ∧ ∀ g, g ∈ St' ↔ g ∈ St ∨ (g ∈ kv.map (·.1) ∧ decide (g.r = f.Recipe) = true) := by
 obtain ⟨w0, rfl⟩ : ∃ w0, w0 = w := ⟨_, rfl⟩
 have hS := hS0
 refine cS (n := 7) (m := 9) func82 rfl rfl rfl (CW.S (LW.rr (.boxA (.t rfl)) rfl ?_))
 rintro _ w1 ⟨B2, rfl, NB2⟩
 replace hS := hS.addB NB2
 refine LW.rr (.boxA (.t rfl)) rfl ?_
 rintro _ w2 ⟨B3, rfl, NB3⟩
 replace hS := hS.addB NB3
 refine LW.T (CW.region (LW.pp (.la isAgg92 sizeOf92 rfl ((hS.blk 2 rfl).agg)) (LW.pp (.makeFunc (.cons (.t rfl) .nil)) ?_)))
 replace hS := hS.pull 0 rfl
 replace hS := hS.pull 0 rfl
 have hq_ := (show Wx.Sep _ _ _ ([_, _] ++ [_, _]) from hS)
 refine LW.K (eC (.u rfl rfl) (en162)) rfl (mark_any 165 _ (fun g => decide (g.r = f.Recipe)) en165 E bf bd bs bc n kv St _ (hE.frz hS.fr hEn) hbc hEn hq_.right.self (fun W hW g => tar1_any g B3 f W ((hS.blk 1 rfl).frz hW (hq_.dis ⟨_, List.mem_cons_of_mem _ List.mem_cons_self, rfl⟩)))) ?_
 rintro _ w3 ⟨St2, rfl, uw3, hmem⟩
 replace hS := hq_.frame uw3
 refine LW.nil (KW.end0 rfl ⟨_, rfl, ?_⟩)
 exact ⟨St2, rfl, hS.sub (.cons _ (.cons _ (List.Sublist.refl _))), hmem⟩
end Go.Proofs.YtbbpkdlehlamlaaGreatDoor
end
section
namespace Go.Wx
def mgB (kb : Base) (f : Fact) (g : Grp) : Bool := (procB kb f.ID).any fun p => decide (g = gof p)
theorem mg_yes {kb : Base} {f p : Fact} (h : procB kb f.ID = some p) (g : Grp) : mgB kb f g = decide (g = gof p) := by unfold mgB; rw [h]; rfl
theorem mg_no {kb : Base} {f : Fact} (h : procB kb f.ID = none) (g : Grp) : mgB kb f g = false := by unfold mgB; rw [h]; rfl
theorem mark_none {St : List Grp} {p : Grp → Bool} {K : List Grp} (h : ∀ g, p g = false) : ∀ g, g ∈ St ↔ g ∈ St ∨ (g ∈ K ∧ p g = true) := fun g => ⟨.inl, fun k => k.elim id fun e => by rw [h g] at e; cases e.2⟩
end Go.Wx
namespace Go.Proofs.YtbbpkdlehlamlaaGreatDoor
open Go.Proofs.Tryz
open Go.Wx Go.RowKit
theorem measure_any (f : Fact) (E bf bd bs : Nat) (bc : Array Go.Value) (n : Int) (kv : List (Grp × Go.Value)) (St : List Grp) (w : World) (hE : Blk w E (EC bf bc bd n) 80) (hbc : bc.size = 11) (hEn : ¬ footL [Mk.aIMap grpK bd kv, Mk.aIMap grpK bs (List.map unG St)] E) (hS0 : Wx.Sep (footL [Mk.aIMap grpK bd kv, Mk.aIMap grpK bs (List.map unG St)]) w w [Mk.aIMap grpK bd kv, Mk.aIMap grpK bs (List.map unG St)]) (kb : Base) (hC : BaseC w bc kb) (hkb : kb.Processes.length ≤ 100000) : Ret prog 80 #[.agg #[.pointer (some ⟨E, 0, none⟩), .map (some bs)], .agg f.cells] w fun r w' => ∃ St', r = .tuple #[] ∧ Wx.Sep (footL [Mk.aIMap grpK bd kv, Mk.aIMap grpK bs (List.map unG St)]) w w' [Mk.aIMap grpK bd kv, Mk.aIMap grpK bs (List.map unG St')] ∧ ∀ g, g ∈ St' ↔ g ∈ St ∨ (g ∈ kv.map (·.1) ∧ mgB kb f g = true) := by
 obtain ⟨w0, rfl⟩ : ∃ w0, w0 = w := ⟨_, rfl⟩
 have hS := hS0
 refine cS (n := 21) (m := 9) func80 rfl rfl rfl (CW.S (LW.rr (.boxA (.t rfl)) rfl ?_))
 rintro _ w1 ⟨B2, rfl, NB2⟩
 replace hE := hE.up NB2.up
 replace hC := hC.up NB2.up
 replace hS := hS.addB NB2
 refine LW.rr (.boxA (.t rfl)) rfl ?_
 rintro _ w2 ⟨B3, rfl, NB3⟩
 replace hE := hE.up NB3.up
 replace hC := hC.up NB3.up
 replace hS := hS.addB NB3
 refine LW.S (CW.boxU 14 11 12 9 4 15 (Fact.cells zeroF) [.eq (.pointer (some ⟨B2, 0, none⟩)), .eq (.pointer (some ⟨E, 0, none⟩)), .eq (.pointer (some ⟨E, 0, none⟩)), .eq (.pointer (some ⟨E, 1, none⟩)), .eq (.agg bc), .eq (.pointer (some ⟨B3, 1, none⟩)), .eq (vi f.ID), .eq (.tuple #[.agg (Fact.cells ((procB kb f.ID).getD zeroF)), .bool (procB kb f.ID).isSome]), .eq (.tuple #[.agg (Fact.cells ((procB kb f.ID).getD zeroF)), .bool (procB kb f.ID).isSome]), .eq (.agg (Fact.cells ((procB kb f.ID).getD zeroF))), .eq (.bool (procB kb f.ID).isSome), .pred fun v _ => ∃ B, v = .pointer (some ⟨B, 0, none⟩), .eq (undef), .eq (.bool (procB kb f.ID).isSome)] [5] zeroValue24 sizeOf24 kQ rfl kQ kQ kQ kQ kQ kQ kQ rfl rfl ⟨_, _, _, rfl⟩ _ rfl ⟨_, _, _, rfl⟩ ⟨PhT.eq _ _, PhT.eq _ _, PhT.eq _ _, PhT.eq _ _, PhT.eq _ _, PhT.eq _ _, PhT.eq _ _, PhT.eq _ _, PhT.eq _ _, PhT.eq _ _, PhT.eq _ _, PhT.pred fun _ _ _ h _ => h, PhT.eq _ _, PhT.eq _ _, trivial⟩ rfl (fun v W h => ⟨_, h, rfl, Fact.one _⟩) (fun B W => ⟨B, rfl⟩) ?_ ?_)
 ·intro W hU0
  have hU := (Up.drew w2).trans hU0
  have hSW := hS.up hU
  have hEW := hE.up hU
  have hCW := hC.up hU
  refine aC (.inr ⟨rfl, TU.p (.fA 0 underlying92 rfl sizeOf28 rfl) rfl⟩) (aC (.inr ⟨rfl, TU.p (.ld isAgg28 rfl ((hSW.blk 2 rfl).celln rfl)) rfl⟩) (aC (.inr ⟨rfl, TU.p (.nilCheck (.t rfl)) rfl⟩) (aC (.inr ⟨rfl, TU.p (.fA 1 underlying80 rfl sizeOf32 rfl) rfl⟩) (aC (.inr ⟨rfl, TU.p (.loadA isAgg32 sizeOf32 hbc (.t rfl) (EC_known hEW)) rfl⟩) (aC (.inr ⟨rfl, TU.p (.fA 1 underlying24 rfl sizeOf3 rfl) rfl⟩) (aC (.inr ⟨rfl, TU.p (.ld isAgg3 rfl ((hSW.blk 3 rfl).celln rfl)) rfl⟩) (aC (.inr ⟨rfl, TU.c (eC (.u rfl rfl) (en54)) (Process_any bc kb f.ID W hCW hkb) sQ⟩) (aC (.inr ⟨rfl, TU.p (.move (.t rfl)) rfl⟩) (aC (.inr ⟨rfl, TU.p (.extract (.t rfl) rfl) rfl⟩) (aC (.inr ⟨rfl, TU.p (.extract (.t rfl) rfl) rfl⟩) (aC (.inl (.inl rfl)) (aC (.inl (.inr rfl)) (aC (.inr ⟨rfl, TU.p (.assign (.t rfl)) rfl⟩) ?_)))))))))))))
  exact allL.nil
 intro w3 B4 g hU0 zB4_ hB4 hg
 have hU := (Up.drew w2).trans hU0
 have zw3 := hU.size
 have zdr : w2.drew.heap.size = w2.heap.size := rfl
 have g15_ : g 15 = .agg (Fact.cells ((procB kb f.ID).getD zeroF)) := hg 9 _ 15 cQ rfl rfl
 have g5_ : g 5 = .bool (procB kb f.ID).isSome := hg 13 _ 5 cQ rfl rfl
 rw [g15_] at hB4
 replace hB4 : Blk w3 B4 (Fact.cells ((procB kb f.ID).getD zeroF)) 24 := hB4
 change LW _ _ _ _ _ _ _ _ ((4, _) :: (5, .eq (g 5)) :: _) _
 rw [g5_]
 replace hE := hE.up hU
 replace hC := hC.up hU
 replace hS := (hS.up (Up.drew _)).add hU0 (A' := aBlk B4 (Fact.cells ((procB kb f.ID).getD zeroF)) 24) hB4 (fun i (e : i = B4) => by omega)
 refine LW.S (CW.region (LW.M rfl (LW.T (CW.cond (.t rfl) (fun h17 => ?_) (fun h17 => ?_)))))
 ·obtain ⟨p, hp⟩ := Option.isSome_iff_exists.1 h17
  rw [hp] at hS
  refine CW.region (LW.pp (.la isAgg92 sizeOf92 rfl ((hS.blk 2 rfl).agg)) (LW.pp (.la isAgg24 sizeOf24 rfl ((hS.blk 4 rfl).agg)) ?_))
  replace hS := hS.pull 0 rfl
  replace hS := hS.pull 0 rfl
  have hq_ := (show Wx.Sep _ _ _ ([_, _, _] ++ [_, _]) from hS)
  refine LW.K (eC (.u rfl rfl) (en79)) rfl (process_any p E bf bd bs bc n kv St _ hE hbc hEn hq_.right.self) ?_
  rintro _ w4 ⟨St2, rfl, uw4, hmem⟩
  replace hS := hq_.frame uw4
  refine LW.nil (KW.end0 rfl ⟨_, rfl, ?_⟩)
  exact ⟨St2, rfl, hS.sub (.cons _ (.cons _ (.cons _ (List.Sublist.refl _)))), fun g => by rw [mg_yes hp]; exact hmem g⟩
 have hp : procB kb f.ID = none := by simpa using h17
 refine CW.skip (KW.end0 rfl ⟨_, rfl, ?_⟩)
 exact ⟨St, rfl, hS.take 2, mark_none (mg_no hp)⟩
end Go.Proofs.YtbbpkdlehlamlaaGreatDoor
end
section
namespace Go.Wx
def chgB (m : FMap) (f : Fact) : Bool := !decide (keyB f = []) && (match fget m (keyB f) with
 | none => !f.Gone
 | some old => prevB f old && (!old.Gone || !f.Gone))
theorem day_ok {f : Fact} (h : keyB f ≠ []) : ¬ (keyB f = [] ∨ 100000 < f.Day) := by
 have := valid_day (keyB_valid h)
 exact fun e => e.elim h oQ
theorem put_empty {m : FMap} {f : Fact} (h : keyB f = []) : chgB m f = false ∧ bestStep 100000 m f = m := ⟨by unfold chgB; rw [decide_eq_true h]; rfl, best_skip (.inl h)⟩
theorem put_old {m : FMap} {f old : Fact} (h : keyB f ≠ []) (hg : fget m (keyB f) = some old) (hp : prevB f old = false) : chgB m f = false ∧ bestStep 100000 m f = m := ⟨by unfold chgB; rw [hg]; simp [hp], best_old (day_ok h) hg hp⟩
theorem put_new {m : FMap} {f : Fact} (h : keyB f ≠ []) (hg : fget m (keyB f) = none) : chgB m f = !f.Gone ∧ bestStep 100000 m f = fset m (keyB f) f := ⟨by unfold chgB; rw [hg, decide_eq_false h]; rfl, best_new (day_ok h) hg⟩
theorem put_over {m : FMap} {f old : Fact} (h : keyB f ≠ []) (hg : fget m (keyB f) = some old) (hp : prevB f old = true) : chgB m f = (!old.Gone || !f.Gone) ∧ bestStep 100000 m f = fset m (keyB f) f := ⟨by unfold chgB; rw [hg, decide_eq_false h]; simp [hp], best_put (day_ok h) hg hp⟩
end Go.Wx
namespace Go.Proofs.YtbbpkdlehlamlaaGreatDoor
open Go.Proofs.Tryz
open Go.Wx Go.RowKit
theorem eput_any (bf : Nat) (m : FMap) (f : Fact) (w : World) (hM : Ms.IMap w bf (encM m)) : Ret prog 38 #[.map (some bf), .agg f.cells] w fun r w' => ∃ ad k cp, r = .slice ad k cp ∧ decide ((k : Int) > 0) = chgB m f ∧ Stp (Ms.aIMap bf (encM m)) (Ms.aIMap bf (encM (bestStep 100000 m f))) w w' := by
 obtain ⟨w0, rfl⟩ : ∃ w0, w0 = w := ⟨_, rfl⟩
 have hS : Wx.Sep (Ms.aIMap bf (encM m)).foot w0 w0 [Ms.aIMap bf (encM m)] := Sep.cons (A := Ms.aIMap bf (encM m)) hM (fun _ h => h) (Sep.start _ _) (by simp)
 refine cS (n := 48) (m := 9) func38 rfl rfl rfl (CW.S (LW.rr (.boxA (.t rfl)) rfl ?_))
 rintro _ w1 ⟨B3, rfl, NB3⟩
 replace hS := hS.addB NB3
 refine LW.C (LW.S (CW.region (LW.pp (.la isAgg24 sizeOf24 rfl ((hS.blk 1 rfl).agg)) (LW.K (eC (.o rfl) (en39)) rfl (Key_any f _) ?_))))
 rintro _ w2 ⟨rfl, uw2⟩
 replace hS := hS.up uw2
 refine LW.A rfl (LW.S ?_)
 cases hq2 : fget m (keyB f) with
 | none =>
  refine CW.region (LW.M rfl (LW.M rfl (LW.pp (Ms.PEv.lookupNo underlying77 underlying9 zeroValue24 (.t rfl) (.t rfl) (hS.get 0 rfl) (fget_none hq2)) (LW.M rfl (LW.pp (.extract (.t rfl) rfl) (LW.pp (.fa (PEv.extract (.t rfl) rfl) (rfl)) (LW.rr (.allocA zeroValue24) rfl ?_)))))))
  rintro _ w3 ⟨B6, rfl, MB6⟩
  refine LW.E (.storeA sizeOf24 rfl (.t rfl) (.t rfl) eQ MB6.blk rfl) ?_
  intro w4 LB6
  have NB6 := MB6.set LB6
  replace hS := hS.addB NB6
  refine LW.A rfl (LW.S (CW.seq ?_))
  cases hq3 : decide (keyB f = []) with
  | true =>
   replace hq3 := of_decide_eq_true hq3
   refine CW.region (LW.M rfl (LW.pp (.tr (PEv.eqlStr (.t rfl) (.const _)) (key_empty hq3)) (LW.M rfl (LW.N (LW.N (LW.no' rfl rfl rfl rfl rfl rfl (LW.no' rfl rfl rfl rfl rfl rfl (LW.no' rfl rfl rfl rfl rfl rfl (LW.no' rfl rfl rfl rfl rfl rfl (LW.N (LW.pp (.pick_or (b := false) (.t rfl) (fun hp => absurd (show true = false from hp) cQ)) (LW.T (CW.cond_true (.t rfl) (CW.S (LW.C (LW.T (CW.ret (KW.then_ret (KW.ret1 rfl rfl ⟨_, rfl, ?_⟩)))))))))))))))))))
   exact ⟨none, 0, 0, rfl, by rw [(put_empty hq3).1]; rfl, by rw [(put_empty hq3).2]; exact ⟨hS.fr, hS.get 0 rfl, fun _ h => .inl h⟩⟩
  | false =>
   replace hq3 := of_decide_eq_false hq3
   refine CW.region (LW.M rfl (LW.pp (.fa (PEv.eqlStr (.t rfl) (.const _)) (key_full hq3)) (LW.M rfl (LW.Y (LW.M rfl (LW.Y (LW.M rfl (LW.N (LW.N (LW.N (LW.N (LW.Y (LW.pp (.pick_and (b := false) (.t rfl) (fun hp => absurd (show false = true from hp) cQ)) (LW.pp (.pick_or (.t rfl) (fun hp => (by exact .tmp rfl))) (LW.T (CW.cond_false (.t rfl) (CW.skip (KW.then (CW.seq ?_)))))))))))))))))))
   replace hS := hS.addn (OwnS.nil _ 0 24 19 Fact.cells)
   refine CW.region (LW.M rfl (LW.M rfl (LW.pp (.la isAgg24 sizeOf24 rfl ((hS.blk 1 rfl).agg)) (LW.E (Ms.SEv.mapUpdate underlying77 underlying9 (.t rfl) (.t rfl) (.t rfl) (hS.get 0 rfl)) ?_))))
   rintro w5 ⟨Mu, Ku, zu⟩
   rw [encM_set] at Mu
   replace hS := hS.stp 0 rfl (Ms.stp_set Mu Ku)
   refine LW.S (CW.S (LW.M rfl (LW.M rfl (LW.N (LW.N (LW.N (LW.pp (.pick_and (b := false) (.t rfl) (fun hp => absurd (show false = true from hp) cQ)) (LW.T (CW.cond_false (.t rfl) (CW.skip (KW.then (CW.seq (CW.seq ?_)))))))))))))
   cases hq8 : f.Gone with
   | true =>
    refine CW.region (LW.pp (.fA 4 underlying24 rfl sizeOf4 rfl) (LW.pp (.ld isAgg4 rfl ((hS.blk 1 rfl).celln rfl)) (LW.pp (.fa (PEv.not (.t rfl)) (by rw [hq8]; rfl)) (LW.T (CW.cond_false (.t rfl) (CW.skip (KW.then (CW.S (LW.M rfl (LW.A rfl (LW.T (CW.ret (KW.ret1 rfl rfl ⟨_, rfl, ?_⟩)))))))))))))
    (obtain ⟨ad, cp, e_, _⟩ := (hS.own 3 rfl).sl (fun _ => rfl); exact ⟨ad, _, cp, e_, by rw [(put_new hq3 hq2).1, hq8]; rfl, by rw [(put_new hq3 hq2).2]; exact ⟨hS.fr, hS.get 0 rfl, fun _ h => .inl h⟩⟩)
   | false =>
    refine CW.region (LW.pp (.fA 4 underlying24 rfl sizeOf4 rfl) (LW.pp (.ld isAgg4 rfl ((hS.blk 1 rfl).celln rfl)) (LW.pp (.tr (PEv.not (.t rfl)) (by rw [hq8]; rfl)) (LW.T (CW.cond_true (.t rfl) (CW.region (LW.M rfl (LW.pp (.la isAgg24 sizeOf24 rfl ((hS.blk 1 rfl).agg)) (LW.rr (.buildSlice (xs := [f]) (enc := Fact.cells) (mk := fun f : Fact => .agg f.cells) underlying26 sizeOf24 zeroValue24 rfl cQ (fun _ => rfl) (fun _ => rfl) (.cons (.t rfl) .nil) rfl) rfl ?_)))))))))
    rintro _ w6 ⟨B45, cB45, rfl, NB45, yB45, xB45⟩
    replace hS := hS.up NB45.up
    have hE45 := xB45
    refine LW.rr (.appendF (enc := Fact.cells) (bytes := 160) (i := Tryz.t24) underlying26 kQ rfl rfl rfl rfl cQ (fun _ => rfl) Fact.one (.t rfl) (.t rfl) (hS.own 3 rfl) (Sl.of_els hE45) (by simp [maxLen]) (by simp)) rfl ?_
    intro v46 w7 Gw7
    replace hS := hS.stp 3 rfl Gw7
    refine LW.A rfl (LW.S (CW.region (LW.M rfl (LW.A rfl (LW.T (CW.ret (KW.ret1 rfl rfl ⟨_, rfl, ?_⟩)))))))
    (obtain ⟨ad, cp, e_, _⟩ := (hS.own 3 rfl).sl (fun _ => rfl); exact ⟨ad, _, cp, e_, by rw [(put_new hq3 hq2).1, hq8]; rfl, by rw [(put_new hq3 hq2).2]; exact ⟨hS.fr, hS.get 0 rfl, fun _ h => .inl h⟩⟩)
 | some old =>
  refine CW.region (LW.M rfl (LW.M rfl (LW.pp (Ms.PEv.lookupYes underlying77 underlying9 (.t rfl) (.t rfl) (hS.get 0 rfl) (fget_some hq2)) (LW.M rfl (LW.pp (.extract (.t rfl) rfl) (LW.pp (.tr (PEv.extract (.t rfl) rfl) (rfl)) (LW.rr (.allocA zeroValue24) rfl ?_)))))))
  rintro _ w8 ⟨B6, rfl, MB6⟩
  refine LW.E (.storeA sizeOf24 rfl (.t rfl) (.t rfl) eQ MB6.blk rfl) ?_
  intro w9 LB6
  have NB6 := MB6.set LB6
  replace hS := hS.addB NB6
  refine LW.A rfl (LW.S (CW.seq ?_))
  cases hq3 : decide (keyB f = []) with
  | true =>
   replace hq3 := of_decide_eq_true hq3
   refine CW.region (LW.M rfl (LW.pp (.tr (PEv.eqlStr (.t rfl) (.const _)) (key_empty hq3)) (LW.M rfl (LW.N (LW.N (LW.no' rfl rfl rfl rfl rfl rfl (LW.no' rfl rfl rfl rfl rfl rfl (LW.no' rfl rfl rfl rfl rfl rfl (LW.no' rfl rfl rfl rfl rfl rfl (LW.N (LW.pp (.pick_or (b := false) (.t rfl) (fun hp => absurd (show true = false from hp) cQ)) (LW.T (CW.cond_true (.t rfl) (CW.S (LW.C (LW.T (CW.ret (KW.then_ret (KW.ret1 rfl rfl ⟨_, rfl, ?_⟩)))))))))))))))))))
   exact ⟨none, 0, 0, rfl, by rw [(put_empty hq3).1]; rfl, by rw [(put_empty hq3).2]; exact ⟨hS.fr, hS.get 0 rfl, fun _ h => .inl h⟩⟩
  | false =>
   replace hq3 := of_decide_eq_false hq3
   refine CW.region (LW.M rfl (LW.pp (.fa (PEv.eqlStr (.t rfl) (.const _)) (key_full hq3)) (LW.M rfl (LW.Y (LW.M rfl (LW.Y (LW.M rfl (LW.Y (LW.pp (.la isAgg24 sizeOf24 rfl ((hS.blk 1 rfl).agg)) (LW.Y (LW.pp (.la isAgg24 sizeOf24 rfl ((hS.blk 2 rfl).agg)) (LW.Y (LW.K (eC (.u rfl rfl) (en65)) rfl (Prevails_any f old _) ?_)))))))))))))
   rintro _ w10 ⟨rfl, uw10⟩
   replace hS := hS.up uw10
   refine LW.Y (LW.pp (.not (.t rfl)) (LW.Y (LW.pp (.pick_and (.t rfl) (fun hp => (by exact .tmp rfl))) (LW.pp (.pick_or (.t rfl) (fun hp => (by exact .tmp rfl))) (LW.T (CW.cond (.t rfl) (fun h26 => ?_) (fun h26 => ?_)))))))
   ·replace h26 : prevB f old = false := by simpa using h26
    refine CW.S (LW.C (LW.T (CW.ret (KW.then_ret (KW.ret1 rfl rfl ⟨_, rfl, ?_⟩)))))
    exact ⟨none, 0, 0, rfl, by rw [(put_old hq3 hq2 h26).1]; rfl, by rw [(put_old hq3 hq2 h26).2]; exact ⟨hS.fr, hS.get 0 rfl, fun _ h => .inl h⟩⟩
   replace h26 : prevB f old = true := by simpa using h26
   refine CW.skip (KW.then (CW.seq ?_))
   replace hS := hS.addn (OwnS.nil _ 0 24 19 Fact.cells)
   refine CW.region (LW.M rfl (LW.M rfl (LW.pp (.la isAgg24 sizeOf24 rfl ((hS.blk 1 rfl).agg)) (LW.E (Ms.SEv.mapUpdate underlying77 underlying9 (.t rfl) (.t rfl) (.t rfl) (hS.get 0 rfl)) ?_))))
   rintro w11 ⟨Mu, Ku, zu⟩
   rw [encM_set] at Mu
   replace hS := hS.stp 0 rfl (Ms.stp_set Mu Ku)
   refine LW.S (CW.seq ?_)
   cases hq6 : old.Gone with
   | true =>
    refine CW.region (LW.M rfl (LW.M rfl (LW.Y (LW.pp (.fA 4 underlying24 rfl sizeOf4 rfl) (LW.Y (LW.pp (.ld isAgg4 rfl ((hS.blk 2 rfl).celln rfl)) (LW.Y (LW.pp (.fa (PEv.not (.t rfl)) (by rw [hq6]; rfl)) (LW.pp (.pick_and (.t rfl) (fun hp => (by exact .tmp rfl))) (LW.T (CW.cond_false (.t rfl) (CW.skip (KW.then (CW.seq (CW.seq ?_)))))))))))))))
    cases hq8 : f.Gone with
    | true =>
     refine CW.region (LW.pp (.fA 4 underlying24 rfl sizeOf4 rfl) (LW.pp (.ld isAgg4 rfl ((hS.blk 1 rfl).celln rfl)) (LW.pp (.fa (PEv.not (.t rfl)) (by rw [hq8]; rfl)) (LW.T (CW.cond_false (.t rfl) (CW.skip (KW.then (CW.S (LW.M rfl (LW.A rfl (LW.T (CW.ret (KW.ret1 rfl rfl ⟨_, rfl, ?_⟩)))))))))))))
     (obtain ⟨ad, cp, e_, _⟩ := (hS.own 3 rfl).sl (fun _ => rfl); exact ⟨ad, _, cp, e_, by rw [(put_over hq3 hq2 h26).1, hq6, hq8]; rfl, by rw [(put_over hq3 hq2 h26).2]; exact ⟨hS.fr, hS.get 0 rfl, fun _ h => .inl h⟩⟩)
    | false =>
     refine CW.region (LW.pp (.fA 4 underlying24 rfl sizeOf4 rfl) (LW.pp (.ld isAgg4 rfl ((hS.blk 1 rfl).celln rfl)) (LW.pp (.tr (PEv.not (.t rfl)) (by rw [hq8]; rfl)) (LW.T (CW.cond_true (.t rfl) (CW.region (LW.M rfl (LW.pp (.la isAgg24 sizeOf24 rfl ((hS.blk 1 rfl).agg)) (LW.rr (.buildSlice (xs := [f]) (enc := Fact.cells) (mk := fun f : Fact => .agg f.cells) underlying26 sizeOf24 zeroValue24 rfl cQ (fun _ => rfl) (fun _ => rfl) (.cons (.t rfl) .nil) rfl) rfl ?_)))))))))
     rintro _ w12 ⟨B45, cB45, rfl, NB45, yB45, xB45⟩
     replace hS := hS.up NB45.up
     have hE45 := xB45
     refine LW.rr (.appendF (enc := Fact.cells) (bytes := 160) (i := Tryz.t24) underlying26 kQ rfl rfl rfl rfl cQ (fun _ => rfl) Fact.one (.t rfl) (.t rfl) (hS.own 3 rfl) (Sl.of_els hE45) (by simp [maxLen]) (by simp)) rfl ?_
     intro v46 w13 Gw13
     replace hS := hS.stp 3 rfl Gw13
     refine LW.A rfl (LW.S (CW.region (LW.M rfl (LW.A rfl (LW.T (CW.ret (KW.ret1 rfl rfl ⟨_, rfl, ?_⟩)))))))
     (obtain ⟨ad, cp, e_, _⟩ := (hS.own 3 rfl).sl (fun _ => rfl); exact ⟨ad, _, cp, e_, by rw [(put_over hq3 hq2 h26).1, hq6, hq8]; rfl, by rw [(put_over hq3 hq2 h26).2]; exact ⟨hS.fr, hS.get 0 rfl, fun _ h => .inl h⟩⟩)
   | false =>
    refine CW.region (LW.M rfl (LW.M rfl (LW.Y (LW.pp (.fA 4 underlying24 rfl sizeOf4 rfl) (LW.Y (LW.pp (.ld isAgg4 rfl ((hS.blk 2 rfl).celln rfl)) (LW.Y (LW.pp (.tr (PEv.not (.t rfl)) (by rw [hq6]; rfl)) (LW.pp (.pick_and (.t rfl) (fun hp => (by exact .tmp rfl))) (LW.T (CW.cond_true (.t rfl) (CW.region (LW.M rfl (LW.pp (.la isAgg24 sizeOf24 rfl ((hS.blk 2 rfl).agg)) (LW.rr (.buildSlice (xs := [old]) (enc := Fact.cells) (mk := fun f : Fact => .agg f.cells) underlying26 sizeOf24 zeroValue24 rfl cQ (fun _ => rfl) (fun _ => rfl) (.cons (.t rfl) .nil) rfl) rfl ?_)))))))))))))))
    rintro _ w14 ⟨B38, cB38, rfl, NB38, yB38, xB38⟩
    replace hS := hS.up NB38.up
    have hE38 := xB38
    refine LW.rr (.appendF (enc := Fact.cells) (bytes := 160) (i := Tryz.t24) underlying26 kQ rfl rfl rfl rfl cQ (fun _ => rfl) Fact.one (.t rfl) (.t rfl) (hS.own 3 rfl) (Sl.of_els hE38) (by simp [maxLen]) (by simp)) rfl ?_
    intro v39 w15 Gw15
    replace hS := hS.stp 3 rfl Gw15
    refine LW.A rfl (LW.S (CW.seq ?_))
    cases hq8 : f.Gone with
    | true =>
     refine CW.region (LW.pp (.fA 4 underlying24 rfl sizeOf4 rfl) (LW.pp (.ld isAgg4 rfl ((hS.blk 1 rfl).celln rfl)) (LW.pp (.fa (PEv.not (.t rfl)) (by rw [hq8]; rfl)) (LW.T (CW.cond_false (.t rfl) (CW.skip (KW.then (CW.S (LW.M rfl (LW.A rfl (LW.T (CW.ret (KW.ret1 rfl rfl ⟨_, rfl, ?_⟩)))))))))))))
     (obtain ⟨ad, cp, e_, _⟩ := (hS.own 3 rfl).sl (fun _ => rfl); exact ⟨ad, _, cp, e_, by rw [(put_over hq3 hq2 h26).1, hq6, hq8]; rfl, by rw [(put_over hq3 hq2 h26).2]; exact ⟨hS.fr, hS.get 0 rfl, fun _ h => .inl h⟩⟩)
    | false =>
     refine CW.region (LW.pp (.fA 4 underlying24 rfl sizeOf4 rfl) (LW.pp (.ld isAgg4 rfl ((hS.blk 1 rfl).celln rfl)) (LW.pp (.tr (PEv.not (.t rfl)) (by rw [hq8]; rfl)) (LW.T (CW.cond_true (.t rfl) (CW.region (LW.M rfl (LW.pp (.la isAgg24 sizeOf24 rfl ((hS.blk 1 rfl).agg)) (LW.rr (.buildSlice (xs := [f]) (enc := Fact.cells) (mk := fun f : Fact => .agg f.cells) underlying26 sizeOf24 zeroValue24 rfl cQ (fun _ => rfl) (fun _ => rfl) (.cons (.t rfl) .nil) rfl) rfl ?_)))))))))
     rintro _ w16 ⟨B45, cB45, rfl, NB45, yB45, xB45⟩
     replace hS := hS.up NB45.up
     have hE45 := xB45
     refine LW.rr (.appendF (enc := Fact.cells) (bytes := 160) (i := Tryz.t24) underlying26 kQ rfl rfl rfl rfl cQ (fun _ => rfl) Fact.one (.t rfl) (.t rfl) (hS.own 3 rfl) (Sl.of_els hE45) (by simp [maxLen]) (by simp)) rfl ?_
     intro v46 w17 Gw17
     replace hS := hS.stp 3 rfl Gw17
     refine LW.A rfl (LW.S (CW.region (LW.M rfl (LW.A rfl (LW.T (CW.ret (KW.ret1 rfl rfl ⟨_, rfl, ?_⟩)))))))
     (obtain ⟨ad, cp, e_, _⟩ := (hS.own 3 rfl).sl (fun _ => rfl); exact ⟨ad, _, cp, e_, by rw [(put_over hq3 hq2 h26).1, hq6, hq8]; rfl, by rw [(put_over hq3 hq2 h26).2]; exact ⟨hS.fr, hS.get 0 rfl, fun _ h => .inl h⟩⟩)
end Go.Proofs.YtbbpkdlehlamlaaGreatDoor
end
section
namespace Go.Wx
def encF (f : Fact) : Array Go.Value := #[.agg f.cells]
open Go.RowKit Go.MapKept in
theorem msClone {P : Program} {n : Nat} {ds : List Deferred} {l : Env} {w : World} {d : Option Tmp} {ty : TypeId} {ps : String} {af : Array Edge} {g : Option (Nat × Bool)} {T : TypeId} {f : FuncId} {fn : Func} {x : Operand} {ts : Array TypeId} {b : Nat} {kv : List (List UInt8 × Go.Value)} (hf : P.funcs[f]? = some fn) (h1 : (fn.name == "runtime.NumGoroutine") = false) (h2 : fn.body.isNone = true) (h3 : Extern.findNext fn = none) (h4 : Extern.find fn = some Extern.MapsClone.clone) (hx : Val l x (.iface T (.map (some b)))) (h : Ms.IMap w b kv) :
   REv P n ds l w ⟨d, .call { callee := .value (.func f), args := #[x], argTypes := ts }, ty, ps, af, g⟩ (fun v w' => ∃ b', v = .iface T (.map (some b')) ∧ Ms.IMap w' b' kv ∧ Up w w' ∧ b' = w.heap.size ∧ w'.heap.size = b' + 1) := fun a ha => by
 obtain ⟨es, clock, hb, hs, he⟩ := h
 refine ⟨.iface T (.map (some w.heap.size)), w.alloc (.map es clock), ?_, _, rfl, ⟨es, clock, (heap_alloc w _).1, hs, he⟩, Up.alloc w _, rfl, by simp⟩
 have e2 : (Extern.MapsClone.clone #[.iface T (.map (some b))]).run P w = .ok (.iface T (.map (some w.heap.size))) (w.alloc (.map es clock)) := by
   have e : Extern.MapsClone.clone #[.iface T (.map (some b))] = (getObj b >>= fun o => match o with
       | .map entries clock => (newObj (.map entries clock) >>= fun n => pure (.iface T (.map (some n))))
       | _ => stuck "maps.clone: a map expected") := rfl
   rw [e]
   simp [MapKept.run_getObj_map hb, Result.andThen, go_sem]
 have e : a.eval (.func f) = .func (.func f) #[] #[] := rfl
 have e1 : (#[x] : Array Operand).map a.eval = #[.iface T (.map (some b))] := by simp [ha.ev hx]
 simp only [execOp, resolve, e, e1, Deferred.ofValue, Sem.run_bind, Sem.run_pure, Result.andThen, invoke]
 have := run_callFunc_extern (args := #[.iface T (.map (some b))]) (w := w) hf h1 h2 h3 h4
 rw [show (#[] ++ #[Value.iface T (.map (some b))] ++ #[] : Array Value) = #[.iface T (.map (some b))] from rfl, this, e2]
 rfl
end Go.Wx
namespace Go.Proofs.YtbbpkdlehlamlaaGreatDoor
open Go.Proofs.Tryz
open Go.Wx Go.RowKit
theorem valuesF_any (b : Nat) (w : World) : Ret prog 41 #[.map (some b)] w fun r w' => (∃ B, r = .func (.func 75) #[] #[.pointer (some ⟨B, 0, none⟩)] ∧ Blk w' B #[.map (some b)] 77 ∧ w.heap.size ≤ B) ∧ Up w w' := by
 have hW := Up.refl w
 refine cS (n := 4) (m := 9) func41 rfl rfl rfl (CW.S (LW.rr (.box1 (.t rfl) rfl) rfl ?_))
 rintro _ w1 ⟨B1, rfl, NB1⟩
 have eB1 := NB1.at_
 replace hW := hW.up NB1.up
 have hB1 := NB1.blk
 refine LW.C (LW.S (CW.region (LW.pp (.makeFunc (.cons (.t rfl) .nil)) (LW.A rfl (LW.T (CW.ret (KW.ret1 rfl rfl ⟨_, rfl, ?_⟩)))))))
 exact ⟨⟨_, rfl, hB1, by omega⟩, hW⟩
theorem valuesF_iter (X Y : Nat → Prop) (B1 b : Nat) (m : FMap) (w : World) (hYY : ∀ i, Y i → i < w.heap.size) (hQX : ¬ X B1) (hbY : ¬ Y b) (hMo : MOk m) (hNd : (m.map (·.1)).Nodup) (hQ0 : Blk w B1 #[.map (some b)] 77) (hM0 : Ms.IMap w b (encM m)) :
   IterS prog 75 #[.pointer (some ⟨B1, 0, none⟩)] encF X Y (fun ys => ys.Perm (factsM m)) (fun _ => True) m.length w := by
 refine IterS.of ?_
 intro lp J Jx w0 hUw _ hY hJ
 obtain ⟨Bd, hBd⟩ : ∃ Bd, Bd = w0.heap.size := ⟨_, rfl⟩
 rw [← hBd] at hJ hY
 have zU := hUw.size
 have hQ := hQ0.up hUw
 have hM := hM0.up hUw
 have zQ0 := hQ.lt
 refine cS (n := 15) (m := 9) func75 rfl rfl rfl (CW.S (LW.pp (.ld isAgg77 rfl (hQ.celln rfl)) (LW.rr (Ms.REv.range underlying77 (.t rfl) hM) rfl ?_)))
 rintro _ w1 ⟨r6, rfl, hR6, uw1, ew1, zw1⟩
 replace hQ := hQ.up uw1
 replace hM := hM.up uw1
 replace hJ := hJ.up uw1
 refine LW.T (CW.block (CW.loop (σ := List Fact) (fun s w => Jw Bd J s w ∧ Blk w B1 #[.map (some b)] 77 ∧ Ms.IRng w b r6 (encM m) (s.map keyB) ∧ ∀ f ∈ s, (keyB f, f) ∈ m) (fun s => [(0, .eq (.func (.yield lp) #[] #[])), (6, .eq (.pointer (some ⟨r6, 0, none⟩)))]) (fun s => m.length - s.length) [] ?_ ?_ ?_))
 ·exact ⟨hJ, hQ, hR6, fun _ h => by cases h⟩
 ·exact ⟨rfl, rfl, trivial⟩
 rintro ds w2 ⟨hJ, hQ, hR6, hds⟩
 have zQ := hQ.lt
 refine CW.S (LW.rr (Ms.REv.next (.t rfl) hR6) rfl ?_)
 rintro _ w3 (⟨rfl, rfl, hPm⟩ | ⟨k, u, rfl, hNx⟩)
 ·skip
  refine LW.pp (.extract (.t rfl) rfl) (LW.S (CW.cond_false (.t rfl) (CW.exit (KW.then_exit (KW.then_exit (KW.block_hit (KW.end0 rfl ⟨_, rfl, ?_⟩)))))))
  exact .inl ⟨_, best_perm hMo hNd hds (by rw [encM_keys] at hPm; exact hPm), hJ.j⟩
 skip
 obtain ⟨_, ho, hwk⟩ := hNx.walk
 replace hJ := hJ.walk hNx.grown oQ ho hwk
 replace hQ := hQ.sto hNx.sto oQ
 replace hR6 := hNx.rng
 have zw3 := hNx.size
 obtain ⟨⟨kx, x⟩, hmem0, he0⟩ := List.mem_map.1 hNx.mem
 cases he0
 have hkx := (hMo _ hmem0).1
 dsimp only at hkx
 subst hkx
 refine LW.pp (.extract (.t rfl) rfl) (LW.S (CW.cond_true (.t rfl) (CW.skip (KW.then (CW.block (CW.S (LW.rr (.entry (.t rfl) hNx.entry) rfl ?_)))))))
 rintro _ _ ⟨rfl, rfl⟩
 refine LW.pp (.extract (.t rfl) rfl) (LW.rr (.allocA zeroValue24) rfl ?_)
 rintro _ w4 ⟨B4, rfl, MB4⟩
 refine LW.E (.storeA sizeOf24 rfl (.t rfl) (.t rfl) (Fact.one _) MB4.blk rfl) ?_
 intro w5 LB4
 have NB4 := MB4.set LB4
 replace hJ := hJ.up NB4.up
 replace hQ := hQ.up NB4.up
 replace hR6 := hR6.up NB4.up
 have hB4 := NB4.blk
 refine LW.S (CW.region (LW.M rfl (LW.pp (.la isAgg24 sizeOf24 rfl (hB4.agg)) (LW.y (.t rfl) (.cons (.t rfl) .nil) rfl rfl (hY ds x _ hJ (by have := hR6.length; simp [encM] at this; omega)) ?_))))
 rintro _ w6 ⟨y, rfl, hcase⟩
 refine LW.pp (.not (.t rfl)) (LW.T (CW.cond (.t rfl) (fun h14 => ?_) (fun h14 => ?_)))
 ·have hy : y = false := by simpa using h14
  subst hy
  obtain ⟨_, hJx⟩ := hcase.resolve_left (by simp)
  refine CW.ret (KW.block_ret (KW.then_ret (KW.block_ret (KW.ret0 rfl ⟨_, rfl, ?_⟩))))
  exact .inr ⟨_, trivial, hJx⟩
 have hy : y = true := by simpa using h14
 subst hy
 obtain ⟨_, hJ2, hN⟩ := hcase.resolve_right (by simp)
 replace hQ := hQ.kx hN hQX
 replace hR6 := hR6.kx hN hbY (fun h => by have := hYY _ h; omega)
 have hds2 : ∀ f ∈ ds ++ [x], (keyB f, f) ∈ m := fun f hf => (List.mem_append.1 hf).elim (hds f) (fun h => by cases List.mem_singleton.1 h; exact hmem0)
 refine CW.skip (KW.inBlock (KW.round ?_))
 exact ⟨ds ++ [x], ⟨hJ2, hQ, by rw [List.map_append]; exact hR6, hds2⟩, ⟨rfl, rfl, trivial⟩, by have := hR6.length; simp [encM] at this ⊢; omega⟩
theorem appendSeqF_any (g : Nat) (lb : Array Go.Value) (S Sp : List Fact → Prop) (N : Nat) (w : World) (en : ∀ args w, (callFunc g args).run prog w = .ok (.enter g args) w) (hit : ∀ W (X Y : Nat → Prop), Up w W → (∀ i, X i → w.heap.size ≤ i) → (∀ i, Y i → w.heap.size ≤ i ∧ i < W.heap.size) → IterS prog g lb encF X Y S Sp N W) (hN0 : N ≤ 1000000000) : Ret prog 74 #[.slice none 0 0, .func (.func g) #[] lb] w fun r w' => ∃ ks, S ks ∧ (aOwn 24 19 Fact.cells r ks).holds w' ∧ (∀ i, (aOwn 24 19 Fact.cells r ks).foot i → w.heap.size ≤ i) ∧ Up w w' := by
 obtain ⟨w0, rfl⟩ : ∃ w0, w0 = w := ⟨_, rfl⟩
 have hS := (Sep.start no w0).marks0
 refine Calls_startM (n := 13) func74 rfl rfl rfl (CW.S (LW.rr (.box1 (.t rfl) rfl) rfl ?_))
 rintro _ w1 ⟨B2, rfl, NB2⟩
 replace hS := hS.addB NB2
 refine LW.C (LW.S (CW.S (LW.M rfl (LW.T (CW.block ?_)))))
 obtain ⟨bq, hbq⟩ : ∃ bq, bq = w1.heap.size := ⟨_, rfl⟩
 replace hS := hS.add (Up.refl _) (A' := aOwn 24 19 Fact.cells (.slice none 0 0) ([] : List Fact)) (OwnS.nil _ _ _ _ _) (fun i h => by cases h)
 refine CW.rangeSep (Zs := [_]) (σ := Go.Value × List Fact) (fun s => [aBlk B2 #[s.1] 26, aOwn 24 19 Fact.cells s.1 s.2]) (fun pre s => (s.2 = pre)) (fun _ _ _ => False) (fun x b => [aBlk b x.cells 24]) (fun x b => [(5, .eq (.pointer (some ⟨b, 0, none⟩))), (2, .eq (.pointer (some ⟨B2, 0, none⟩)))]) (.slice none 0 0, []) (.t rfl) en (hit _ _ _ hS.upd (fun i h => h.1.elim (fun h => h.elim) id) (fun i h => ⟨h.1.elim (fun h => h.elim) id, h.2.1⟩)) (fun _ => rfl) rfl (fun _ _ => rfl) (show Wx.Sep _ _ _ ([_] ++ [_, _]) from hS) rfl ?_ ?_ ?_ ?_
 ·intro lp x w2
  have hS := Sep.start no w2
  refine CW.assign1 rfl (CW.region (LW.rr (.allocA zeroValue24) rfl ?_))
  rintro _ w3 ⟨B5, rfl, MB5⟩
  refine LW.E (.storeA sizeOf24 rfl (.t rfl) (.t rfl) (Fact.one _) MB5.blk rfl) ?_
  intro w4 LB5
  have NB5 := MB5.set LB5
  replace hS := hS.addB NB5
  refine LW.nil ?_
  exact fun a ha => ⟨_, hS, .cons (kokB (hS.blk 0 rfl)) (.nil _ _), ha.sub ⟨rfl, rfl, trivial⟩⟩
 ·rintro lp pre x ⟨v, ks⟩ b w5 hJ hlt hqw hS0 hS
  rw [← hbq] at hqw ⊢
  subst hJ
  dsimp only at hlt
  refine CW.block (CW.region (LW.pp (.ld isAgg26 rfl ((hS.blk 0 rfl).celln rfl)) (LW.pp (.la isAgg24 sizeOf24 rfl ((hS.blk 2 rfl).agg)) (LW.rr (.buildSlice (xs := [x]) (enc := Fact.cells) (mk := fun s : Fact => .agg s.cells) underlying26 sizeOf24 zeroValue24 rfl cQ (fun _ => rfl) (fun _ => rfl) (.cons (.t rfl) .nil) rfl) rfl ?_))))
  rintro _ w6 ⟨B10, cB10, rfl, NB10, yB10, xB10⟩
  replace hS := hS.up NB10.up
  have hE10 := xB10
  refine LW.rr (.appendF (enc := Fact.cells) (bytes := 160) (i := Tryz.t24) underlying26 kQ rfl rfl rfl rfl cQ (fun _ => rfl) Fact.one (.t rfl) (.t rfl) (hS.own 1 rfl) (Sl.of_els hE10) (by simp only [maxLen, List.length_cons, List.length_nil]; omega) (by simp only [List.length_cons, List.length_nil]; omega)) rfl ?_
  intro v11 w7 Gw7
  replace hS := hS.stp 1 rfl Gw7
  refine LW.E (.store sizeOf26 (.t rfl) (.t rfl) (hS.own 1 rfl).one (hS.blk 0 rfl) (zQ rfl)) ?_
  intro w8 Nw8
  replace hS := hS.putB 0 rfl Nw8
  refine LW.nil (KW.inBlock ?_)
  exact fun _ _ => ⟨(v11, ks ++ [x]), _, rfl, hS, .cons (kokB (hS.blk 0 rfl)) (.cons (kokO (hS.own 1 rfl)) (.nil _ _))⟩
 ·rintro Dm ys ⟨v, ks⟩ w9 hDq hYs hJ hqw hS
  rw [← hbq] at hDq hqw
  replace hS := markSet (Ds := []) (As := []) (Bs := [_, _]) hS
  refine KW.inBlock (KW.then (CW.S (LW.pp (.ld isAgg26 rfl ((hS.blk 1 rfl).celln rfl)) (LW.A rfl (LW.T (CW.ret (KW.unmarks rfl (Dm :: []) _ (hS.get 0 rfl).1 (hS.get 0 rfl).2 ?_)))))))
  intro w10 hF_
  replace hS := hS.step 0 rfl (A' := aNil) hF_ trivial (fun _ h => h.elim)
  refine KW.ret1 rfl rfl ⟨_, rfl, ?_⟩
  obtain ⟨rfl⟩ := hJ
  exact ⟨ks, hYs, hS.get 2 rfl, fun i hi => (hS.foot 2 rfl i hi).elim (fun h => h.elim) id, hS.upd⟩
 exact fun _ _ _ _ _ _ _ h => h.elim
theorem collectF_any (g : Nat) (lb : Array Go.Value) (S Sp : List Fact → Prop) (N : Nat) (w : World) (en : ∀ args w, (callFunc g args).run prog w = .ok (.enter g args) w) (hit : ∀ W (X Y : Nat → Prop), Up w W → (∀ i, X i → w.heap.size ≤ i) → (∀ i, Y i → w.heap.size ≤ i ∧ i < W.heap.size) → IterS prog g lb encF X Y S Sp N W) (hN0 : N ≤ 1000000000) : Ret prog 40 #[.func (.func g) #[] lb] w fun r w' => ∃ ks, S ks ∧ (aOwn 24 19 Fact.cells r ks).holds w' ∧ (∀ i, (aOwn 24 19 Fact.cells r ks).foot i → w.heap.size ≤ i) ∧ Up w w' := by
 have hW := Up.refl w
 refine cS (n := 5) (m := 9) func40 rfl rfl rfl (CW.S (LW.C (LW.S (CW.region (LW.M rfl (LW.K (eC (.cons (.const _) (.cons (.t rfl) .nil)) (en74)) rfl (appendSeqF_any _ _ _ _ _ _ en hit hN0) ?_))))))
 rintro _ w1 ⟨ks, hS, hO, hF, uw1⟩
 replace hW := hW.up uw1
 refine LW.A rfl (LW.T (CW.ret (KW.ret1 rfl rfl ⟨_, rfl, ?_⟩)))
 exact ⟨ks, hS, hO, hF, hW⟩
theorem cloneM_any (b : Nat) (kv : List (List UInt8 × Go.Value)) (w : World) (hM : Ms.IMap w b kv) : Ret prog 37 #[.map (some b)] w fun r w' => ∃ b', r = .map (some b') ∧ Ms.IMap w' b' kv ∧ w.heap.size ≤ b' ∧ Up w w' := by
 have hW := Up.refl w
 refine cS (n := 9) (m := 9) func37 rfl rfl rfl (CW.S (LW.C (LW.S (CW.S (LW.M rfl (LW.pp (.fa (PEv.fa (Mk.PEv.eqlMapNil underlying77 (.t rfl)) rfl) (rfl)) (LW.T (CW.cond_false (.t rfl) (CW.skip (KW.then (CW.S (LW.M rfl (LW.pp (Mk.PEv.mkIface kQ (.t rfl)) (LW.rr (msClone func67 rfl rfl kQ kQ (.t rfl) hM) rfl ?_))))))))))))))
 rintro _ w1 ⟨b', rfl, hM2, uw1, ew1, zw1⟩
 replace hW := hW.up uw1
 replace hM := hM.up uw1
 refine LW.pp (Mk.PEv.assertMap underlying77 (.t rfl)) (LW.A rfl (LW.T (CW.ret (KW.ret1 rfl rfl ⟨_, rfl, ?_⟩))))
 exact ⟨b', rfl, hM2, by omega, hW⟩
end Go.Proofs.YtbbpkdlehlamlaaGreatDoor
end
section
namespace Go.Wx
theorem ofB_eff {l m : List Fact} {d d' : Int} (h : ∀ f, eff l d f ↔ eff m d' f) : ofB l d = ofB m d' := by
 have hp : (factsM (bestL l d)).Perm (factsM (bestL m d')) := perm_of_mem (factsM_nodup l d) (factsM_nodup m d') fun x => by rw [best_eff, best_eff, h]
 have hm := (best_inv m d').ok
 have hn := best_nodup m d'
 unfold ofB baseL
 rw [lst_perm hm hn hp [1] 0 cQ, lst_perm hm hn hp [2] 1 cQ, lst_perm hm hn hp [3] 2 cQ, lst_perm hm hn hp [4] 3 cQ, lst_perm hm hn hp [5] 4 cQ, lst_perm hm hn hp [6] 5 cQ, lst_perm hm hn hp [7] 6 cQ, lst_perm hm hn hp [8] 7 cQ, lst_perm hm hn hp [9] 8 cQ, lst_perm hm hn hp [10] 9 cQ, lst_perm hm hn hp [11] 10 (by decide)]
theorem ofB_facts {ks all : List Fact} {d : Int} (h : ks.Perm (factsM (bestL all d))) : ofB ks d = ofB all d := by
 refine ofB_eff fun f => ?_
 have hm : ∀ g, g ∈ ks ↔ eff all d g := fun g => by rw [h.mem_iff, best_eff]
 unfold eff
 rw [hm f]
 constructor
 · exact fun e => e.1
 intro e
 have e0 : eff all d f := e
 exact ⟨e0, e0.2.1, e0.2.2.1, fun g hg hd => e0.2.2.2 g ((hm g).1 hg).1 hd⟩
theorem BaseB.mono {a b : Nat} {bc : Array Go.Value} (h : BaseB b bc) (hl : a ≤ b) : BaseB a bc := fun j v hv i hi => Nat.le_trans hl (h j v hv i hi)
end Go.Wx
namespace Go.Proofs.YtbbpkdlehlamlaaGreatDoor
open Go.Proofs.Tryz
open Go.Wx Go.RowKit
theorem EBase_any (E bf bd : Nat) (bc : Array Go.Value) (nw : Int) (all : List Fact) (w : World) (hE : Blk w E (EC bf bc bd nw) 80) (hM : Ms.IMap w bf (encM (bestL all 100000))) (hl : all.length ≤ 100000) : Ret prog 14 #[.pointer (some ⟨E, 0, none⟩)] w fun r w' => ∃ bc', r = .agg bc' ∧ BaseC w' bc' (ofB all 100000) ∧ BaseB w.heap.size bc' ∧ Up w w' := by
 have zE := hE.lt
 have zM := Ms.IMap.lt hM
 obtain ⟨w0, rfl⟩ : ∃ w0, w0 = w := ⟨_, rfl⟩
 have hS := Sep.start no w0
 refine cS (n := 13) (m := 9) func14 rfl rfl rfl (CW.S (LW.rr (.allocA zeroValue32) rfl ?_))
 rintro _ w1 ⟨B2, rfl, NB2⟩
 have eB2 := NB2.at_
 have zB2 := NB2.size
 replace hE := hE.up NB2.up
 replace hM := hM.up NB2.up
 replace hS := hS.addB NB2
 refine LW.S (CW.S (LW.M rfl (LW.pp (.fa (PEv.eqlNil underlying28 (.t rfl)) (rfl)) (LW.T (CW.cond_false (.t rfl) (CW.skip (KW.then (CW.S (LW.M rfl (LW.pp (.nilCheck (.t rfl)) (LW.pp (.fA 0 underlying80 rfl sizeOf77 rfl) (LW.pp (.ld isAgg77 rfl (hE.cell EC_facts)) (LW.K (eC (.o rfl) (en41)) rfl (valuesF_any bf _) ?_)))))))))))))
 rintro _ w2 ⟨⟨BK, rfl, hBK, zK⟩, uw2⟩
 have zw2 := uw2.size
 replace hS := hS.up uw2
 replace hE := hE.up uw2
 replace hM := hM.up uw2
 have zBK := hBK.lt
 have hMk2 := hM
 refine LW.K (eC (.o rfl) (en40)) rfl (collectF_any _ _ _ _ _ _ en75 (fun W X Y u hX hY => valuesF_iter X Y BK bf (bestL all 100000) W (fun i h => (hY i h).2) (fun h => by have := hX _ h; omega) (fun h => by have := (hY _ h).1; omega) (best_ok 100000 all).1 (best_nodup all 100000) (hBK.up u) (Ms.IMap.up hMk2 u)) (by have := (best_ok 100000 all).2; omega)) ?_
 rintro v11 w3 ⟨ks, hks, hO, hOn, uw3⟩
 have zw3 := uw3.size
 replace hE := hE.up uw3
 replace hM := hM.up uw3
 replace hS := hS.add uw3 (A' := aOwn 24 19 Fact.cells v11 ks) (hO) (hOn)
 obtain ⟨ad, cp, rfl, _⟩ := (hS.own 1 rfl).sl (fun _ => rfl)
 have hkl : ks.length ≤ 100000 := by have := (best_ok 100000 all).2; have e := hks.length_eq; simp only [factsM, List.length_map] at e; omega
 refine LW.K (eC (.cons (.t rfl) (.cons (.const _) .nil)) (en32)) rfl (Of_own ad cp ks 100000 _ ((hS.own 1 rfl).els (fun _ => rfl)) hkl) ?_
 rintro _ w4 ⟨bc', rfl, hC, hb, uw4⟩
 have zw4 := uw4.size
 replace hS := hS.up uw4
 replace hE := hE.up uw4
 replace hM := hM.up uw4
 rw [ofB_facts hks] at hC
 refine LW.E (.storeA sizeOf32 hC.size (.t rfl) (.t rfl) hC.one (hS.blk 0 rfl) rfl) ?_
 intro w5 Nw5
 replace hS := hS.putB 0 rfl Nw5
 replace hE := hE.sto Nw5.sto oQ
 replace hM := hM.sto Nw5.sto oQ
 replace hC := hC.frB hb Nw5.sto.fr (fun i (e : i = B2) => by omega)
 refine LW.T (CW.ret (KW.retA rfl rfl isAgg32 sizeOf32 hC.size ((hS.blk 0 rfl).agg) ⟨_, rfl, ?_⟩))
 exact ⟨bc', rfl, hC, hb.mono oQ, hS.upd⟩
end Go.Proofs.YtbbpkdlehlamlaaGreatDoor
end
section
namespace Go.Wx
def curG (p : Grp → Bool) (kv : List (Grp × Go.Value)) (V : List Grp) : List (Grp × Go.Value) := kv.filter fun q => p q.1 || !decide (q.1 ∈ V)
theorem curG_nil (p : Grp → Bool) (kv : List (Grp × Go.Value)) : curG p kv [] = kv := List.filter_eq_self.2 fun k _ => by simp
theorem curG_yes {p : Grp → Bool} (kv : List (Grp × Go.Value)) (V : List Grp) {k : Grp} (h : p k = true) : curG p kv (V ++ [k]) = curG p kv V := by
 refine List.filter_congr fun x _ => ?_
 by_cases e : x.1 = k
 · rw [e, h]; rfl
 simp [e]
theorem curG_no {p : Grp → Bool} (kv : List (Grp × Go.Value)) (V : List Grp) {k : Grp} (h : p k = false) : curG p kv (V ++ [k]) = (curG p kv V).filter fun q => !decide (q.1 = k) := by
 rw [curG, curG, List.filter_filter]
 refine List.filter_congr fun x _ => ?_
 by_cases e : x.1 = k
 · simp [e, h]
 simp [e]
theorem fiG_yes {p : Grp → Bool} (V : List Grp) {k : Grp} (h : p k = true) : (V ++ [k]).filter p = V.filter p ++ [k] := by rw [List.filter_append]; simp [h]
theorem fiG_no {p : Grp → Bool} (V : List Grp) {k : Grp} (h : p k = false) : (V ++ [k]).filter p = V.filter p := by rw [List.filter_append]; simp [h]
theorem curG_fresh {p : Grp → Bool} {kv : List (Grp × Go.Value)} {V : List Grp} {k : Grp} {u : Go.Value} (h : (k, u) ∈ curG p kv V) (hf : k ∉ V.filter p) : k ∉ V ∧ (k, u) ∈ kv := by
 obtain ⟨h1, h2⟩ := List.mem_filter.1 h
 refine ⟨fun hV => ?_, h1⟩
 cases hi : p k with
 | true => exact hf (List.mem_filter.2 ⟨hV, hi⟩)
 | false => dsimp only at h2; rw [hi] at h2; simp [hV] at h2
theorem curG_end {p : Grp → Bool} {kv : List (Grp × Go.Value)} {V : List Grp} (h : (V.filter p).Perm ((curG p kv V).map (·.1))) : curG p kv V = kv.filter fun q => p q.1 := by
 refine List.filter_congr fun q hq => ?_
 cases hi : p q.1 with
 | true => rfl
 | false =>
   cases hc : decide (q.1 ∈ V) with
   | true => rfl
   | false =>
     exfalso
     have h1 : q ∈ curG p kv V := List.mem_filter.2 ⟨hq, by rw [hc]; simp⟩
     have := (List.mem_filter.1 (h.symm.subset (List.mem_map.2 ⟨q, h1, rfl⟩))).2
     rw [hi] at this; cases this
end Go.Wx
namespace Go.Proofs.YtbbpkdlehlamlaaGreatDoor
open Go.Proofs.Tryz
open Go.Wx Go.RowKit
theorem delG_any (cf : Nat) (lb : Array Go.Value) (p : Grp → Bool) (hen : ∀ args w, (callFunc cf args).run prog w = .ok (.enter cf args) w) (b : Nat) (kv : List (Grp × Go.Value)) (w : World) (hM : Mk.IMap grpK w b kv) (hp : ∀ W, Fr (· = b) w W → ∀ g, g ∈ kv.map (·.1) → ∀ u, Ret prog cf (#[.agg (Grp.cells g), u] ++ lb) W fun r W' => r = .bool (!p g) ∧ Up W W') : Ret prog 77 #[.map (some b), .func (.func cf) #[] lb] w fun r w' => r = .tuple #[] ∧ Stp (Mk.aIMap grpK b (kv)) (Mk.aIMap grpK b (kv.filter fun q => p q.1)) w w' := by
 obtain ⟨w0, rfl⟩ : ∃ w0, w0 = w := ⟨_, rfl⟩
 have hS : Wx.Sep (Mk.aIMap grpK b (kv)).foot w0 w0 [Mk.aIMap grpK b (kv)] := Sep.cons (A := Mk.aIMap grpK b (kv)) hM (fun _ h => h) (Sep.start _ _) (by simp)
 refine cS (n := 19) (m := 9) func77 rfl rfl rfl (CW.S (LW.M rfl (LW.rr (Mk.REv.range (Q := grpK) underlying78 (.t rfl) (hS.get 0 rfl)) rfl ?_)))
 rintro _ w1 ⟨r7, rfl, hR_, uR, eR, zR⟩
 replace hS := hS.stp 0 rfl (Mk.stp_range hR_ uR eR)
 refine LW.T (CW.block (CW.loopB (σ := List Grp) (fun s w => (s.Nodup ∧ ∀ k ∈ s, k ∈ kv.map (·.1)) ∧ (Wx.Sep (Mk.aIMap grpK b (kv)).foot w0 w [Mk.aIRng grpK b r7 (curG p kv s) (s.filter p)])) (fun s => []) ([(0, .eq _), (1, .eq _), (7, .eq _)]) (fun s => kv.length - s.length) [] ?_ ⟨rfl, rfl, rfl, trivial⟩ ?_))
 ·exact ⟨⟨List.nodup_nil, fun _ h => (by cases h)⟩, by rw [curG_nil]; exact hS⟩
 rintro V w2 ⟨hV, hS⟩
 refine CW.S (LW.rr (Mk.REv.next (.t rfl) (hS.get 0 rfl)) rfl ?_)
 rintro _ w3 (⟨rfl, rfl, hPm⟩ | ⟨k0, u0, rfl, hNx⟩)
 ·skip
  refine LW.pp (.extract (.t rfl) rfl) (LW.S (CW.cond_false (.t rfl) (CW.exit (KW.then_exit (KW.then_exit (KW.block_hit (KW.end0 rfl ⟨_, rfl, ?_⟩)))))))
  rw [curG_end hPm] at hS
  have hS2 := hS.stp 0 rfl (Mk.stp_rngEnd (hS.get 0 rfl))
  exact ⟨rfl, hS2.fr, hS2.get 0 rfl, fun _ h => .inl h⟩
 skip
 have zw3 := hNx.size
 replace hS := hS.stp 0 rfl (Mk.stp_next hNx)
 obtain ⟨hk0V, hk0⟩ := curG_fresh hNx.mem hNx.fresh
 have hk0m : k0 ∈ kv.map (·.1) := List.mem_map.2 ⟨_, hk0, rfl⟩
 have hV2 : (V ++ [k0]).Nodup ∧ ∀ k ∈ V ++ [k0], k ∈ kv.map (·.1) := ⟨List.nodup_append.2 ⟨hV.1, by simp, fun a ha c hc => by simp at hc; subst hc; exact fun e => hk0V (e ▸ ha)⟩, fun k hk => (List.mem_append.1 hk).elim (hV.2 k) (fun h => by cases List.mem_singleton.1 h; exact hk0m)⟩
 have hVl := hV2.1.length_le_of_subset hV2.2
 rw [List.length_append, List.length_singleton, List.length_map] at hVl
 refine LW.pp (.extract (.t rfl) rfl) (LW.S (CW.cond_true (.t rfl) (CW.skip (KW.then (CW.block (CW.S (LW.rr (.entry (.t rfl) hNx.entry) rfl ?_)))))))
 rintro _ _ ⟨rfl, rfl⟩
 refine LW.pp (.extract (.t rfl) rfl) (LW.pp (.extract (.t rfl) rfl) (LW.rr (.allocA zeroValue96) rfl ?_))
 rintro _ w4 ⟨B4, rfl, MB4⟩
 refine LW.E (.storeA sizeOf96 rfl (.t rfl) (.t rfl) (Grp.one _) MB4.blk rfl) ?_
 intro w5 LB4
 have NB4 := MB4.set LB4
 replace hS := hS.addB NB4
 refine LW.A rfl (LW.S (CW.region (LW.M rfl (LW.pp (.la isAgg96 sizeOf96 rfl ((hS.blk 1 rfl).agg)) (LW.M rfl (LW.K (enter_call (.t rfl) (.cons (.t rfl) (.cons (.t rfl) .nil)) (hen)) rfl (hp _ hS.fr k0 hk0m u0) ?_))))))
 rintro _ w6 ⟨rfl, uw6⟩
 replace hS := hS.up uw6
 refine LW.T (CW.cond (.t rfl) (fun h16 => ?_) (fun h16 => ?_))
 ·have hid : p k0 = false := by simpa using h16
  refine CW.region (LW.M rfl (LW.pp (.la isAgg96 sizeOf96 rfl ((hS.blk 1 rfl).agg)) (LW.rn (Mk.REv.deleteR (Q := grpK) underlying78 grpLaw (.t rfl) (.t rfl) (hS.get 0 rfl)) rfl rfl rfl ?_)))
  rintro _ w7 ⟨hR2, Kd, zd⟩
  replace hS := hS.stp 0 rfl (Mk.stp_rng hR2 Kd)
  refine LW.nil (KW.inBlock (KW.round ?_))
  exact ⟨V ++ [k0], ⟨hV2, by (rw [curG_no kv V hid, fiG_no V hid]; exact hS.take 1)⟩, ⟨rfl, rfl, rfl, trivial⟩, by rw [List.length_append, List.length_singleton]; omega⟩
 have hid : p k0 = true := by simpa using h16
 refine CW.skip (KW.inBlock (KW.round ?_))
 exact ⟨V ++ [k0], ⟨hV2, by (rw [curG_yes kv V hid, fiG_yes V hid]; exact hS.take 1)⟩, ⟨rfl, rfl, rfl, trivial⟩, by rw [List.length_append, List.length_singleton]; omega⟩
end Go.Proofs.YtbbpkdlehlamlaaGreatDoor
end
section
namespace Go.Wx
theorem sepNe {S0 : Nat → Prop} {w0 w : World} {As : List Asr} (h : Wx.Sep S0 w0 w As) {i j : Nat} (hij : i < j) {A B : Asr} (hA : As[i]? = some A) (hB : As[j]? = some B) (b : Nat) (ha : A.foot b) : ¬ B.foot b := pairwise_get h.apart hij hA hB b ha
theorem gmap_frz {S : Nat → Prop} {w w' : World} {b : Nat} {kv : List (Grp × Go.Value)} (h : Mk.IMap grpK w b kv) (f : Fr S w w') (hn : ¬ S b) : Mk.IMap grpK w' b kv := (Mk.aIMap grpK b kv).keep w w' h (fun i (hi : i = b) hl => f.block i hl (by rw [hi]; exact hn)) f.size
structure DE where
 g : Grp
 v : Go.Value
 L : List DP
def DE.kv (e : DE) : Grp × Go.Value := (e.g, e.v)
def de0 (g : Grp) : DE := ⟨g, .slice none 0 0, []⟩
def addD (D : List DE) (g : Grp) : List DE := if g ∈ D.map (·.g) then D else D ++ [de0 g]
theorem kv_keys (D : List DE) : (D.map DE.kv).map (·.1) = D.map (·.g) := by rw [List.map_map]; rfl
theorem mset_addD {D : List DE} {g : Grp} (h : g ∉ D.map (·.g)) : Mk.mset (D.map DE.kv) g (.slice none 0 0) = (addD D g).map DE.kv := by
 unfold Mk.mset addD
 rw [kv_keys, if_neg h, if_neg h, List.map_append]
 rfl
theorem addD_yes {D : List DE} {g : Grp} (h : g ∈ D.map (·.g)) : addD D g = D := if_pos h
def grpsL (l : List Fact) : List Grp := l.foldl (fun L p => addG L (gof p)) []
def regL (D : List DE) (l : List Fact) : List DE := l.foldl (fun D p => addD D (gof p)) D
theorem grpsL_next {l : List Fact} {i : Nat} {x : Fact} (h : l[i]? = some x) : grpsL (l.take (i + 1)) = addG (grpsL (l.take i)) (gof x) := by
 unfold grpsL
 rw [List.take_add_one, h, Option.toList_some, List.foldl_append]
 rfl
theorem regL_next {D : List DE} {l : List Fact} {i : Nat} {x : Fact} (h : l[i]? = some x) : regL D (l.take (i + 1)) = addD (regL D (l.take i)) (gof x) := by
 unfold regL
 rw [List.take_add_one, h, Option.toList_some, List.foldl_append]
 rfl
def regD (D : List DE) (l : List Fact) : List DE := (regL D l).filter fun e => decide (e.g ∈ grpsL l)
theorem regD_kv (D : List DE) (l : List Fact) : ((regL D l).map DE.kv).filter (fun q => decide (q.1 ∈ grpsL l)) = (regD D l).map DE.kv := by
 unfold regD
 rw [List.filter_map]
 rfl
end Go.Wx
namespace Go.Proofs.YtbbpkdlehlamlaaGreatDoor
open Go.Proofs.Tryz
open Go.Wx Go.RowKit
theorem reg1_any (g : Grp) (u : Go.Value) (Bt bt : Nat) (L : List Grp) (w : World) (hg : g.ok) (hT : Blk w Bt #[.map (some bt)] 90) (hM : Mk.IMap grpK w bt (L.map unG)) : Ret prog 78 #[.agg g.cells, u, .pointer (some ⟨Bt, 0, none⟩)] w fun r w' => r = .bool (!decide (g ∈ L)) ∧ Up w w' := by
 have hW := Up.refl w
 refine cS (n := 16) (m := 9) func78 rfl rfl rfl (CW.S (LW.rr (.boxA (.t rfl)) rfl ?_))
 rintro _ w1 ⟨B3, rfl, NB3⟩
 replace hT := hT.up NB3.up
 replace hM := hM.up NB3.up
 replace hW := hW.up NB3.up
 have hB3 := NB3.blk
 refine LW.C (LW.S (CW.region (LW.pp (.ld isAgg90 rfl (hT.celln rfl)) (LW.pp (.la isAgg96 sizeOf96 rfl (hB3.agg)) (LW.pp (.lookupG underlying90 grpLaw hg zeroValue84 (.t rfl) (.t rfl) hM) (LW.M rfl (LW.pp (.extract (.t rfl) rfl) (LW.pp (.extract (.t rfl) rfl) (LW.rr (.allocA zeroValue84) rfl ?_)))))))))
 rintro _ w2 ⟨B6, rfl, MB6⟩
 refine LW.E (.storeA sizeOf84 rfl (.t rfl) (.t rfl) (by simp [Value.oneCell']) MB6.blk rfl) ?_
 intro w3 LB6
 have NB6 := MB6.set LB6
 replace hT := hT.up NB6.up
 replace hM := hM.up NB6.up
 replace hW := hW.up NB6.up
 replace hB3 := hB3.up NB6.up
 have hB6 := NB6.blk
 refine LW.A rfl (LW.S (CW.region (LW.M rfl (LW.pp (.not (.t rfl)) (LW.A rfl (LW.T (CW.ret (KW.ret1 rfl rfl ⟨_, rfl, ?_⟩))))))))
 exact ⟨rfl, hW⟩
theorem regroup_any (E bf bd : Nat) (bc : Array Go.Value) (nw : Int) (kb : Base) (ad : Option Addr) (cp : Nat) (D : List DE) (w : World) (hE : Blk w E (EC bf bc bd nw) 80) (hbc : bc.size = 11) (h0 : bc[0]? = some (.slice ad kb.Processes.length cp)) (hEp : Els w ad 19 Fact.cells kb.Processes) (hPb : kb.Processes ≠ [] → ∀ B o, ad = some ⟨B, o, none⟩ → B ≠ bd) (hok : ∀ p ∈ kb.Processes, (gof p).ok) (hl : kb.Processes.length ≤ 100000) (hEn : ¬ footL [Mk.aIMap grpK bd (D.map DE.kv)] E) (hS0 : Wx.Sep (footL [Mk.aIMap grpK bd (D.map DE.kv)]) w w [Mk.aIMap grpK bd (D.map DE.kv)]) : Ret prog 42 #[.pointer (some ⟨E, 0, none⟩)] w fun r w' => r = .tuple #[] ∧ Wx.Sep (footL [Mk.aIMap grpK bd (D.map DE.kv)]) w w' [Mk.aIMap grpK bd ((regD D kb.Processes).map DE.kv)] := by
 obtain ⟨w0, rfl⟩ : ∃ w0, w0 = w := ⟨_, rfl⟩
 have hS := hS0
 refine cS (n := 47) (m := 9) func42 rfl rfl rfl (CW.S (LW.rr (Mk.REv.makeMap (Q := grpK)) rfl ?_))
 rintro _ w1 ⟨M8, rfl, hMM8, uw1, eM8, zM8⟩
 replace hS := hS.add uw1 (A' := Mk.aIMap grpK M8 ((grpsL (kb.Processes.take 0)).map unG)) hMM8 (fun i (h : i = M8) => by omega)
 refine LW.rr (.alloc1 zeroValue90 rfl) rfl ?_
 rintro _ w2 ⟨B2, rfl, MB2⟩
 refine LW.E (.store sizeOf90 (.t rfl) (.t rfl) rfl MB2.blk cQ) ?_
 intro w3 LB2
 have NB2 := MB2.set LB2
 replace hS := hS.addB NB2
 refine LW.S (CW.S (LW.M rfl (LW.pp (.nilCheck (.t rfl)) (LW.pp (.fA 1 underlying80 rfl sizeOf32 rfl) (LW.pp (.fA 0 underlying32 rfl sizeOf26 rfl) (LW.pp (.ld isAgg26 rfl (EC_lst (hE.frz hS.fr hEn) h0)) (LW.pp (.lenS underlying26 (.t rfl)) (LW.pp (.move (.const _)) (LW.T (CW.block (CW.loopB (σ := Nat) (fun s w => (s ≤ kb.Processes.length) ∧ (Wx.Sep (footL [Mk.aIMap grpK bd (D.map DE.kv)]) w0 w [Mk.aIMap grpK bd ((regL D (kb.Processes.take s)).map DE.kv), Mk.aIMap grpK M8 ((grpsL (kb.Processes.take s)).map unG), aBlk B2 #[.map (some M8)] 90])) (fun s => [(15, .eq (vi (s : Int)))]) ([(0, .eq _), (2, .eq _), (13, .eq _), (14, .eq _)]) (fun s => kb.Processes.length - s) 0 ?_ ⟨rfl, rfl, rfl, rfl, rfl, trivial⟩ ?_)))))))))))
 ·exact ⟨Nat.zero_le _, hS⟩
 rintro i w4 ⟨hi, hS⟩
 refine CW.S (LW.pp (.lss (.t rfl) (.t rfl)) (LW.S (CW.cond (.t rfl) (fun h16 => ?_) (fun h16 => ?_))))
 ·replace h16 := dQ h16
  refine CW.skip (KW.then (CW.seq (CW.block (CW.seq ?_))))
  have hil : i < kb.Processes.length := by omega
  obtain ⟨x, hx⟩ : ∃ x, kb.Processes[i]? = some x := ⟨_, List.getElem?_eq_getElem hil⟩
  obtain ⟨Bx, ox, ax, hcx⟩ := (Els.fr hEp hS.fr (fun B o ea hs => by obtain ⟨A_, hA_, hf_⟩ := hs; cases List.mem_singleton.1 hA_; exact hPb (fun e => by rw [e] at hil; simp at hil) B o ea hf_)) i x hx
  have hgo := hok x (List.mem_of_getElem? hx)
  refine CW.region (LW.pp (.indexAddr' underlying26 sizeOf24 (j := i) (.t rfl) (.t rfl) oQ ax) (LW.pp (.la isAgg24 sizeOf24 rfl (hcx)) (LW.rr (.allocA zeroValue24) rfl ?_)))
  rintro _ w5 ⟨B4, rfl, MB4⟩
  refine LW.E (.storeA sizeOf24 rfl (.t rfl) (.t rfl) (Fact.one _) MB4.blk rfl) ?_
  intro w6 LB4
  have NB4 := MB4.set LB4
  replace hS := hS.addB NB4
  refine LW.S (CW.region (LW.pp (.la isAgg24 sizeOf24 rfl ((hS.blk 3 rfl).agg)) (LW.K (eC (.o rfl) (en76)) rfl (gof_any x _) ?_)))
  rintro _ w7 ⟨rfl, uw7⟩
  replace hS := hS.up uw7
  refine LW.rr (.allocA zeroValue96) rfl ?_
  rintro _ w8 ⟨B5, rfl, MB5⟩
  refine LW.E (.storeA sizeOf96 rfl (.t rfl) (.t rfl) (Grp.one _) MB5.blk rfl) ?_
  intro w9 LB5
  have NB5 := MB5.set LB5
  replace hS := hS.addB NB5
  refine LW.S (CW.region (LW.pp (.ld isAgg90 rfl ((hS.blk 2 rfl).celln rfl)) (LW.pp (.la isAgg96 sizeOf96 rfl ((hS.blk 4 rfl).agg)) (LW.pp (.build (cs := #[]) underlying84 zeroValue84 Tryz.places84 .nil rfl) (LW.E (Mk.SEv.mapUpdate (Q := grpK) underlying90 grpLaw hgo (.t rfl) (.t rfl) (.t rfl) (hS.get 1 rfl)) ?_)))))
  rintro w10 ⟨Mu, Ku, zu⟩
  rw [mset_unG] at Mu
  replace hS := hS.stp 1 rfl (Mk.stp_set Mu Ku)
  refine LW.S ?_
  cases hq6 : decide (gof x ∈ (regL D (kb.Processes.take i)).map (·.g)) with
  | true =>
   replace hq6 := of_decide_eq_true hq6
   obtain ⟨e6, he6, hg6⟩ := List.mem_map.1 hq6
   refine CW.draws kQ kQ rfl rfl (HW.pp (.move (.t rfl)) (HW.pp (.nilCheck (.t rfl)) (HW.pp (.fA 12 underlying80 rfl sizeOf78 rfl) (HW.pp (.ld isAgg78 rfl ((hE.frz hS.fr hEn).cell (EC_dec hbc))) (HW.pp (.la isAgg96 sizeOf96 rfl ((hS.blk 4 rfl).agg)) (HW.pp (Mk.PEv.lookupYes (Q := grpK) (ok := true) (v := e6.v) underlying78 grpLaw hgo (.t rfl) (.t rfl) (hS.get 0 rfl) (List.mem_map.2 ⟨e6, he6, by unfold DE.kv; rw [hg6]⟩)) (HW.pp (.move (.t rfl)) (HW.pp (.extract (.t rfl) rfl) (HW.pp (.tr (PEv.extract (.t rfl) rfl) (rfl)) (HW.pp (.assign (.t rfl)) (HW.pp (.assign (.t rfl)) (HW.nil ?_))))))))))))
   intro w11 uw11
   replace hS := hS.up uw11
   refine KW.then (CW.S (LW.M rfl (LW.pp (.not (.t rfl)) (LW.T (CW.cond_false (.t rfl) (CW.skip (KW.inBlock (KW.then (CW.region (LW.pp (.inc (.t rfl) oQ) (LW.M rfl (LW.nil (KW.round ?_)))))))))))))
   exact ⟨i + 1, ⟨by omega, by rw [grpsL_next hx, regL_next hx]; (rw [addD_yes hq6]; exact hS.take 3)⟩, ⟨rfl, rfl, rfl, rfl, rfl, trivial⟩, by omega⟩
  | false =>
   replace hq6 := of_decide_eq_false hq6
   refine CW.draws kQ kQ rfl rfl (HW.pp (.move (.t rfl)) (HW.pp (.nilCheck (.t rfl)) (HW.pp (.fA 12 underlying80 rfl sizeOf78 rfl) (HW.pp (.ld isAgg78 rfl ((hE.frz hS.fr hEn).cell (EC_dec hbc))) (HW.pp (.la isAgg96 sizeOf96 rfl ((hS.blk 4 rfl).agg)) (HW.pp (Mk.PEv.lookupNo (Q := grpK) (ok := true) underlying78 grpLaw hgo zeroValue38 (.t rfl) (.t rfl) (hS.get 0 rfl) (by rw [kv_keys]; exact hq6)) (HW.pp (.move (.t rfl)) (HW.pp (.extract (.t rfl) rfl) (HW.pp (.fa (PEv.extract (.t rfl) rfl) (rfl)) (HW.pp (.assign (.t rfl)) (HW.pp (.assign (.t rfl)) (HW.nil ?_))))))))))))
   intro w12 uw12
   replace hS := hS.up uw12
   refine KW.then (CW.S (LW.M rfl (LW.pp (.not (.t rfl)) (LW.T (CW.cond_true (.t rfl) (CW.draws_then 5 kQ kQ kQ kQ kQ rfl rfl (HW.pp (.move (.t rfl)) (HW.pp (.nilCheck (.t rfl)) (HW.pp (.fA 12 underlying80 rfl sizeOf78 rfl) (HW.pp (.ld isAgg78 rfl ((hE.frz hS.fr hEn).cell (EC_dec hbc))) (HW.pp (.la isAgg96 sizeOf96 rfl ((hS.blk 4 rfl).agg)) (HW.nil ?_))))))))))))
   intro w13 uw13
   replace hS := hS.up uw13
   refine LW.E (Mk.SEv.mapUpdate (Q := grpK) underlying78 grpLaw hgo (.t rfl) (.t rfl) (.const _) (hS.get 0 rfl)) ?_
   rintro w14 ⟨Mu, Ku, zu⟩
   rw [mset_addD hq6] at Mu
   replace hS := hS.stp 0 rfl (Mk.stp_set Mu Ku)
   refine LW.nil (KW.inBlock (KW.then (CW.region (LW.pp (.inc (.t rfl) oQ) (LW.M rfl (LW.nil (KW.round ?_)))))))
   exact ⟨i + 1, ⟨by omega, by rw [grpsL_next hx, regL_next hx]; exact hS.take 3⟩, ⟨rfl, rfl, rfl, rfl, rfl, trivial⟩, by omega⟩
 replace h16 := dQ h16
 refine CW.exit (KW.then_exit (KW.then_exit (KW.block_hit (KW.then ?_))))
 have hie : i = kb.Processes.length := by omega
 rw [hie, List.take_length] at hS
 have okR : ∀ g, g ∈ ((regL D kb.Processes).map DE.kv).map (·.1) → g.ok := fun g hg => by obtain ⟨q, hq, rfl⟩ := List.mem_map.1 hg; exact okG (hS.get 0 rfl) hq
 refine CW.region (LW.M rfl (LW.pp (.nilCheck (.t rfl)) (LW.pp (.fA 12 underlying80 rfl sizeOf78 rfl) (LW.pp (.ld isAgg78 rfl ((hE.frz hS.fr hEn).cell (EC_dec hbc))) (LW.pp (.makeFunc (.cons (.t rfl) .nil)) (LW.K (eC (.u rfl rfl) (en77)) rfl (delG_any 78 _ (fun g => decide (g ∈ grpsL kb.Processes)) en78 bd _ _ (hS.get 0 rfl) (fun W hW g hg u => reg1_any g u B2 M8 _ W (okR g hg) ((hS.blk 2 rfl).frz hW (fun e => sepNe hS (show 0 < 2 by decide) rfl rfl bd rfl (Eq.symm e))) (gmap_frz (hS.get 1 rfl) hW (fun e => sepNe hS (show 0 < 1 by decide) rfl rfl bd rfl (Eq.symm e))))) ?_))))))
 rintro _ w15 ⟨rfl, uw15⟩
 replace hS := hS.stp 0 rfl uw15
 refine LW.nil (KW.end0 rfl ⟨_, rfl, ?_⟩)
 rw [regD_kv] at hS
 exact ⟨rfl, hS.take 1⟩
end Go.Proofs.YtbbpkdlehlamlaaGreatDoor
end
section
namespace Go.Wx
theorem Sl.kept {α : Type} {w w' : World} {v : Go.Value} {k : Nat} {enc : α → Array Go.Value} {xs : List α} (h : Sl w v k enc xs) (hk : ∀ i, v.ownBlock = some i → xs ≠ [] → i < w.heap.size → w'.heap[i]? = w.heap[i]?) : Sl w' v k enc xs := by
 obtain ⟨ad, c, rfl, he⟩ := h
 refine ⟨ad, c, rfl, fun i x hx => ?_⟩
 obtain ⟨B, o, e, ha⟩ := he i x hx
 refine ⟨B, o, e, fun j v hv => ?_⟩
 have hc := ha j v hv
 have hl : B < w.heap.size := block_lt_of_cell hc
 have hb := hk B (by rw [e]; rfl) (fun e => by rw [e] at hx; simp at hx) hl
 unfold World.cell? at hc ⊢
 rw [hb]; exact hc
def footB (bc : Array Go.Value) (b : Base) (i : Nat) : Prop := ∃ (j : Nat) (v : Go.Value), bc[j]? = some v ∧ v.ownBlock = some i ∧ lstOf b j ≠ []
theorem BaseC.kept {w w' : World} {bc : Array Go.Value} {b : Base} (h : BaseC w bc b) (hk : ∀ i, footB bc b i → i < w.heap.size → w'.heap[i]? = w.heap[i]?) : BaseC w' bc b := by
 obtain ⟨v0, v1, v2, v3, v4, v5, v6, v7, v8, v9, v10, rfl, h0, h1, h2, h3, h4, h5, h6, h7, h8, h9, h10⟩ := h
 exact ⟨v0, v1, v2, v3, v4, v5, v6, v7, v8, v9, v10, rfl, Sl.kept h0 fun i hi hn => hk i ⟨0, v0, rfl, hi, hn⟩, Sl.kept h1 fun i hi hn => hk i ⟨1, v1, rfl, hi, hn⟩, Sl.kept h2 fun i hi hn => hk i ⟨2, v2, rfl, hi, hn⟩, Sl.kept h3 fun i hi hn => hk i ⟨3, v3, rfl, hi, hn⟩, Sl.kept h4 fun i hi hn => hk i ⟨4, v4, rfl, hi, hn⟩, Sl.kept h5 fun i hi hn => hk i ⟨5, v5, rfl, hi, hn⟩, Sl.kept h6 fun i hi hn => hk i ⟨6, v6, rfl, hi, hn⟩, Sl.kept h7 fun i hi hn => hk i ⟨7, v7, rfl, hi, hn⟩, Sl.kept h8 fun i hi hn => hk i ⟨8, v8, rfl, hi, hn⟩, Sl.kept h9 fun i hi hn => hk i ⟨9, v9, rfl, hi, hn⟩, Sl.kept h10 fun i hi hn => hk i ⟨10, v10, rfl, hi, hn⟩⟩
theorem BaseC.flt {w : World} {bc : Array Go.Value} {b : Base} (h : BaseC w bc b) : ∀ i, footB bc b i → i < w.heap.size := by
 rintro i ⟨j, v, hv, hi, hn⟩
 by_cases hj : j < 11
 · obtain ⟨v', hv', ad, c, rfl, he⟩ := h.at_ hj
   rw [hv] at hv'
   cases hv'
   obtain ⟨x, hx⟩ : ∃ x, (lstOf b j)[0]? = some x := ⟨_, List.getElem?_eq_getElem (List.length_pos_iff.2 hn)⟩
   obtain ⟨B, o, e, ha⟩ := he 0 x hx
   subst e
   have hB : B = i := Option.some.inj hi
   have hc := ha 0 (vi x.Kind) rfl
   have := block_lt_of_cell hc
   exact hB ▸ this
 exact absurd (lstOf_big b hj) hn
def aBase (bc : Array Go.Value) (b : Base) : Asr := ⟨footB bc b, fun w => BaseC w bc b, fun _ _ h k _ => h.kept k, fun _ h => h.flt⟩
theorem aBase_low {bc : Array Go.Value} {b : Base} {base : Nat} (h : BaseB base bc) : ∀ i, (aBase bc b).foot i → base ≤ i := fun i ⟨j, v, hv, hi, _⟩ => h j v hv i hi
theorem msLen {P : Program} {n : Nat} {ds : List Deferred} {l : Env} {w : World} {d : Option Tmp} {ty : TypeId} {ps : String} {af : Array Edge} {g : Option (Nat × Bool)} {T K E : TypeId} {x : Operand} {b : Nat} {kv : List (List UInt8 × Go.Value)} (hT : P.underlying T = some (.map K E)) (hx : Val l x (.map (some b))) (h : Ms.IMap w b kv) : PEv P n ds l w ⟨d, .call { callee := .builtin .len, args := #[x], argTypes := #[T] }, ty, ps, af, g⟩ (vi (kv.length : Int)) := fun a w' ha hu => by
 obtain ⟨es, clock, hb, hs, he⟩ := h.up hu
 have hl : es.size = kv.length := by
   have := congrArg List.length he
   simpa using this
 rw [BigFrame.execOp_builtin, BigFrame.builtin_len]
 refine run_v ?_
 simp [Builtin.len_, run_underlying hT, MapKept.run_getObj_map hb, Sem.run_bind, Result.andThen, goInt, ha.ev hx, hl]
theorem neqNilF {P : Program} {n : Nat} {ds : List Deferred} {l : Env} {w : World} {d : Option Tmp} {ty : TypeId} {ps : String} {af : Array Edge} {g : Option (Nat × Bool)} {T T' : TypeId} {x : Operand} {v : Go.Value} {b : Bool} {pa ra : Array TypeId} {va : Bool} (hT : P.underlying T = some (.func pa ra va)) (hx : Val l x v) (hv : (v = .nilFunc ∧ b = false) ∨ ∃ f, v = .func f #[] #[] ∧ b = true) : PEv P n ds l w ⟨d, .binOp .neq T x (.const .nilFunc) T', ty, ps, af, g⟩ (.bool b) := fun a w' ha _ => by
 refine run_v ?_
 have e1 : a.eval (.const .nilFunc) = .nilFunc := rfl
 rw [ha.ev hx, e1, Sem.run_bind]
 have : (eqGuard .neq T x (.const .nilFunc) v .nilFunc).run P w' = .ok () w' := by
   unfold eqGuard
   rcases hv with ⟨rfl, rfl⟩ | ⟨f, rfl, rfl⟩ <;> rfl
 rw [this]
 show (binOp .neq T v .nilFunc).run P w' = _
 have h0 : ∀ m : Nat, (Op.equalIn (m + 1) T v .nilFunc).run P w' = .ok (!b) w' := fun m => by
   rcases hv with ⟨rfl, rfl⟩ | ⟨f, rfl, rfl⟩ <;> simp [Op.equalIn, run_underlying hT]
 have h1 := h0 9999
 rcases hv with ⟨rfl, rfl⟩ | ⟨f, rfl, rfl⟩
 · simp only [binOp]
   simp [show Op.equal T Go.Value.nilFunc Go.Value.nilFunc = Op.equalIn (9999 + 1) T Go.Value.nilFunc Go.Value.nilFunc from rfl, h1]
 simp only [binOp]
 simp [show Op.equal T (Go.Value.func f #[] #[]) Go.Value.nilFunc = Op.equalIn (9999 + 1) T (Go.Value.func f #[] #[]) Go.Value.nilFunc from rfl, h1]
theorem ms_keepT {T : TypeId} {w w' : World} {b : Nat} {kv : List (List UInt8 × Go.Value)} (h : Ms.IMap w b kv) (u : KeepT T w w') : Ms.IMap w' b kv := by
 obtain ⟨es, clock, h1, h2⟩ := h
 exact ⟨es, clock, u.obj _ _ h1 (fun _ _ e => by cases e), h2⟩
def unK (k : List UInt8) : List UInt8 × Go.Value := (k, .agg #[])
def addK (L : List (List UInt8)) (k : List UInt8) : List (List UInt8) := if k ∈ L then L else L ++ [k]
theorem unK_keys (L : List (List UInt8)) : (L.map unK).map (·.1) = L := by rw [List.map_map]; exact List.map_id _
theorem mset_unK (L : List (List UInt8)) (k : List UInt8) : Ms.mset (L.map unK) k (.agg #[]) = (addK L k).map unK := by
 unfold Ms.mset addK
 rw [unK_keys]
 split
 · rw [List.map_map]
   refine List.map_congr_left fun x _ => ?_
   show (if x = k then (k, Go.Value.agg #[]) else unK x) = unK x
   split
   · rename_i e; rw [e]; rfl
   rfl
 rw [List.map_append]; rfl
def fgz (m : FMap) (k : List UInt8) : Fact := (fget m k).getD zeroF
def concB (kb : Base) (f : Fact) (g : Grp) : Bool := !f.Gone && (if f.Kind = 1 then decide (g = gof f) else if f.Kind = 2 then mgB kb f g else if f.Kind = 9 then (decide (g.t = f.Tool) && decide (g.c = f.Chamber)) else if f.Kind = 10 then decide (g.r = f.Recipe) else false)
end Go.Wx
namespace Go.Proofs.YtbbpkdlehlamlaaGreatDoor
open Go.Proofs.Tryz
open Go.Wx Go.RowKit
theorem lookupFct {n : Nat} {ds : List Deferred} {l : Env} {w : World} {d : Option Tmp} {ty : TypeId} {ps : String} {af : Array Edge} {g : Option (Nat × Bool)} {mo x : Operand} {b : Nat} {k : List UInt8} {m : FMap} (hm : Val l mo (.map (some b))) (hx : Val l x (Ms.vs k)) (h : Ms.IMap w b (encM m)) :
   PEv prog n ds l w ⟨d, .lookup 77 mo x false, ty, ps, af, g⟩ (.agg (fgz m k).cells) := by
 unfold fgz
 cases hg : fget m k with
 | some f => exact Ms.PEv.lookupYes (ok := false) (v := .agg f.cells) underlying77 underlying9 hm hx h (fget_some hg)
 | none => exact Ms.PEv.lookupNo (ok := false) underlying77 underlying9 zeroValue24 hm hx h (fget_none hg)
theorem byK_cases (k : Int) : (byKV k = .nilFunc ∧ ∀ kb f g, f.Kind = k → concB kb f g = false) ∨ ∃ cf, byKV k = .func (.func cf) #[] #[] ∧ (∀ args w, (callFunc cf args).run prog w = .ok (.enter cf args) w) ∧ ∀ (f : Fact) (E bf bd bs : Nat) (bc : Array Go.Value) (n : Int) (kv : List (Grp × Go.Value)) (St : List Grp) (w : World) (_ : Blk w E (EC bf bc bd n) 80) (_ : bc.size = 11) (_ : ¬ footL [Mk.aIMap grpK bd kv, Mk.aIMap grpK bs (List.map unG St)] E) (_ : Wx.Sep (footL [Mk.aIMap grpK bd kv, Mk.aIMap grpK bs (List.map unG St)]) w w [Mk.aIMap grpK bd kv, Mk.aIMap grpK bs (List.map unG St)]) (kb : Base) (_ : BaseC w bc kb) (_ : kb.Processes.length ≤ 100000), f.Kind = k → f.Gone = false → Ret prog cf (#[.agg #[.pointer (some ⟨E, 0, none⟩), .map (some bs)], .agg f.cells] ++ #[]) w fun r w' => ∃ St', r = .tuple #[] ∧ Wx.Sep (footL [Mk.aIMap grpK bd kv, Mk.aIMap grpK bs (List.map unG St)]) w w' [Mk.aIMap grpK bd kv, Mk.aIMap grpK bs (List.map unG St')] ∧ ∀ g, g ∈ St' ↔ g ∈ St ∨ (g ∈ kv.map (·.1) ∧ concB kb f g = true) := by
 rcases kindK k with (rfl | rfl | rfl | rfl) | hkn
 · refine .inr ⟨79, rfl, en79, fun f E bf bd bs bc n kv St w hE hbc hEn hS0 kb hC hkb hk hg => (process_any f E bf bd bs bc n kv St w hE hbc hEn hS0).mono fun r w' h => ?_⟩
   obtain ⟨St', h1, h2, h3⟩ := h
   exact ⟨St', h1, h2, fun g => by rw [h3 g]; unfold concB; rw [hk, hg]; rfl⟩
 · refine .inr ⟨80, rfl, en80, fun f E bf bd bs bc n kv St w hE hbc hEn hS0 kb hC hkb hk hg => (measure_any f E bf bd bs bc n kv St w hE hbc hEn hS0 kb hC hkb).mono fun r w' h => ?_⟩
   obtain ⟨St', h1, h2, h3⟩ := h
   exact ⟨St', h1, h2, fun g => by rw [h3 g]; unfold concB; rw [hk, hg]; rfl⟩
 · refine .inr ⟨81, rfl, en81, fun f E bf bd bs bc n kv St w hE hbc hEn hS0 kb hC hkb hk hg => (reset_any f E bf bd bs bc n kv St w hE hbc hEn hS0).mono fun r w' h => ?_⟩
   obtain ⟨St', h1, h2, h3⟩ := h
   exact ⟨St', h1, h2, fun g => by rw [h3 g]; unfold concB; rw [hk, hg]; rfl⟩
 · refine .inr ⟨82, rfl, en82, fun f E bf bd bs bc n kv St w hE hbc hEn hS0 kb hC hkb hk hg => (target_any f E bf bd bs bc n kv St w hE hbc hEn hS0).mono fun r w' h => ?_⟩
   obtain ⟨St', h1, h2, h3⟩ := h
   exact ⟨St', h1, h2, fun g => by rw [h3 g]; unfold concB; rw [hk, hg]; rfl⟩
 refine .inl ⟨byKV_no hkn, fun kb f g hk => ?_⟩
 obtain ⟨h1, h2, h3, h4⟩ := hkn
 unfold concB
 rw [hk, if_neg h1, if_neg h2, if_neg h3, if_neg h4, Bool.and_false]
def aDs (e : DE) : Asr := aAnd [aOwn 48 6 DP.cells e.v e.L, aAnd (usesA 3 e.L)]
def aDD (D : List DE) : Asr := aAnd (D.map aDs)
theorem de0_no (g : Grp) : ∀ i, ¬ (aDs (de0 g)).foot i := by
 rintro i ⟨A, hA, hi⟩
 simp only [List.mem_cons, List.mem_nil_iff, or_false] at hA
 rcases hA with rfl | rfl
 · cases hi
 obtain ⟨B, hB, _⟩ := hi
 cases hB
theorem de0_holds (g : Grp) (w : World) : (aDs (de0 g)).holds w := by
 refine ⟨fun A hA => ?_, ?_⟩
 · simp only [List.mem_cons, List.mem_nil_iff, or_false] at hA
   rcases hA with rfl | rfl
   · exact OwnS.nil _ _ _ _ _
   exact ⟨fun _ h => (by cases h), List.Pairwise.nil⟩
 refine List.pairwise_pair.2 fun _ hi => by cases hi
theorem aDD_sub {D D' : List DE} {w : World} (h : D'.Sublist D) (hD : (aDD D).holds w) : Stp (aDD D) (aDD D') w w :=
 ⟨Fr.refl _ _, ⟨fun A hA => hD.1 A ((h.map aDs).subset hA), hD.2.sublist (h.map aDs)⟩, fun _ ⟨A, hA, hi⟩ => .inl ⟨A, (h.map aDs).subset hA, hi⟩⟩
theorem aDD_add {D : List DE} {w : World} (g : Grp) (hD : (aDD D).holds w) : Stp (aDD D) (aDD (addD D g)) w w := by
 unfold addD
 split
 · exact Stp.refl hD
 refine ⟨Fr.refl _ _, ⟨fun A hA => ?_, ?_⟩, fun i ⟨A, hA, hi⟩ => ?_⟩
 · rw [List.map_append] at hA
   rcases List.mem_append.1 hA with h | h
   · exact hD.1 A h
   rw [List.map_singleton, List.mem_singleton] at h; subst h; exact de0_holds g w
 · rw [List.map_append]
   refine List.pairwise_append.2 ⟨hD.2, List.pairwise_singleton _ _, fun A _ B hB i _ hi => ?_⟩
   rw [List.map_singleton, List.mem_singleton] at hB
   subst hB
   exact de0_no g i hi
 rw [List.map_append] at hA
 rcases List.mem_append.1 hA with h | h
 · exact .inl ⟨A, h, hi⟩
 rw [List.map_singleton, List.mem_singleton] at h; subst h; exact absurd hi (de0_no g i)
theorem aDD_reg {D : List DE} {w : World} (l : List Fact) (hD : (aDD D).holds w) : Stp (aDD D) (aDD (regD D l)) w w := by
 have key : ∀ (l : List Fact) (D : List DE), (aDD D).holds w → Stp (aDD D) (aDD (regL D l)) w w := by
   intro l
   induction l with
   | nil => exact fun D h => Stp.refl h
   | cons x l ih => exact fun D h => (aDD_add (gof x) h).trans (ih _ (aDD_add (gof x) h).holds)
 exact (key l D hD).trans (aDD_sub List.filter_sublist (key l D hD).holds)
theorem aDD_set {D : List DE} {w w' : World} {j : Nat} {e e' : DE} (hD : (aDD D).holds w) (hj : D[j]? = some e) (u : Up w w') (h : (aDs e').holds w') (hn : ∀ i, (aDs e').foot i → w.heap.size ≤ i) : Stp (aDD D) (aDD (D.set j e')) w w' := by
 have := aAnd_stp hD (j := j) (A := aDs e) (by rw [List.getElem?_map, hj]; rfl) (A' := aDs e') ⟨u.fr _, h, fun i hi => .inr (hn i hi)⟩
 rwa [← List.map_set] at this
end Go.Proofs.YtbbpkdlehlamlaaGreatDoor
end
section
namespace Go.Wx
open Go.RowKit
section
variable {R : Option Nat} {m : Nat} {P : Program} {n : Nat} {ds : List Deferred} {Q : Exit → Go.Act → World → Prop} {l : Env} {w : World} {ops : Array Oper}
def behindOK (ops : Array Oper) (k : Nat) : Bool :=
 (List.range ops.size).all fun i => !Nat.ble (k + 1) i || (match ops[i]? with | none => false | some o => o.after.any fun e => Region.binds .any e && Nat.ble k e.on)
theorem behindOK_at {k : Nat} (h : behindOK ops k = true) {i : Nat} {o : Oper} (ho : ops[i]? = some o) (hk : k < i) : ∃ e ∈ o.after, Region.binds .any e = true ∧ k ≤ e.on := by
 have hi : i < ops.size := (Array.getElem?_eq_some_iff.1 ho).1
 have h1 := List.all_eq_true.1 h i (List.mem_range.2 hi)
 have hb : Nat.ble (k + 1) i = true := Nat.ble_eq_true_of_le hk
 simp only [ho, hb, Bool.not_true, Bool.false_or] at h1
 obtain ⟨e, he, hh⟩ := Array.any_eq_true.1 h1
 simp only [Bool.and_eq_true] at hh
 exact ⟨_, Array.getElem_mem he, hh.1, zQ hh.2⟩
theorem any_orderS {w0 : World} {base : Env} (s : Nat) (hss : s ≤ ops.size) (hok : regOK n ops = true) (E : Nat → Env) (hE0 : E s = [])
   (hE : ∀ (i : Nat) (o : Oper), s ≤ i → ops[i]? = some o → ∃ ph d, o.dst = some d ∧ phUp ph ∧ HOp P n ds ops w0 (keepSlots (o.looksAt ops) (E i) ++ base) o ph ∧ E (i + 1) = (d, ph) :: E i)
   (hbase : ∀ i ph, lk base i = some ph → phUp ph ∧ ∀ (j : Nat) (o : Oper), s ≤ j → ops[j]? = some o → o.dst ≠ some i)
   (hQ : ∀ a w, Up w0 w → Ag n ds (E ops.size ++ base) a w → Q .normal a w) :
   ∀ (fuel : Nat) (listed : Array Bool) (a : Act) (w : World), listed.size = ops.size → listed.toList.countP (· == false) ≤ fuel → (∀ j, j < s → listed.getD j false = true) → Up w0 w → Ag n ds base a w →
     (∀ (j : Nat) (o : Oper) (d : Nat) (ph : Ph), s ≤ j → ops[j]? = some o → o.dst = some d → E (j + 1) = (d, ph) :: E j → listed.getD j false = true → ph.holds (a.tmps.getD d undef) w) →
     wpAnyIn (FR R) m P .any ops Q fuel listed a w := by
 -- a slot of a part of E comes of an operation ahead
 have hEl : ∀ k i ph, s ≤ k → k ≤ ops.size → lk (E k) i = some ph → ∃ j o, s ≤ j ∧ j < k ∧ ops[j]? = some o ∧ o.dst = some i ∧ E (j + 1) = (i, ph) :: E j := by
   intro k
   induction k with
   | zero => intro i ph hs0 _ h; rw [show 0 = s by omega, hE0] at h; cases h
   | succ k ih =>
     intro i ph hsk hk h
     by_cases es : s = k + 1
     · rw [← es, hE0] at h; cases h
     have hko : ops[k]? = some ops[k] := by simp [show k < ops.size by omega]
     obtain ⟨q, d, hd, _, _, he⟩ := hE k _ oQ hko
     rw [he] at h
     by_cases e : i = d
     · subst e
       rw [lk_cons_eq] at h
       cases h
       exact ⟨k, _, by omega, by omega, hko, hd, he⟩
     rw [lk_cons_ne e] at h
     obtain ⟨j, o, h0, h1, h2⟩ := ih i ph oQ oQ h
     exact ⟨j, o, h0, by omega, h2⟩
 have hall : ∀ (listed : Array Bool), listed.size = ops.size → Region.ready .any ops listed = [] → ∀ i, i < ops.size → listed.getD i false = true := by
   intro listed hs hr i
   induction i using Nat.strongRecOn with
   | _ i ih =>
     intro hi
     cases hb : listed.getD i false with
     | true => rfl
     | false =>
       exfalso
       have hmem : i ∈ Region.ready .any ops listed := by
         unfold Region.ready
         rw [List.mem_filter]
         refine ⟨List.mem_range.2 hi, ?_⟩
         have hio : ops[i]? = some ops[i] := by simp [hi]
         have hlt : i < listed.size := by omega
         have hb' : listed.getD i true = false := by
           rw [Array.getD_eq_getD_getElem?] at hb ⊢
           simp only [hlt, Array.getElem?_eq_getElem, Option.getD_some] at hb ⊢
           exact hb
         simp only [hb', Bool.not_false, hio, Option.map_some, Option.getD_some, Bool.true_and]
         refine Array.all_eq_true_iff_forall_mem.2 fun e he => ?_
         cases hbe : Region.binds .any e with
         | false => rfl
         | true =>
           have := (regOK_at hok hio).2.1 e he hbe
           simp [ih e.on this (by omega)]
       rw [hr] at hmem
       cases hmem
 have hdone : ∀ (listed : Array Bool) (a : Act) (w : World), listed.size = ops.size → Region.ready .any ops listed = [] → Up w0 w → Ag n ds base a w →
     (∀ (j : Nat) (o : Oper) (d : Nat) (ph : Ph), s ≤ j → ops[j]? = some o → o.dst = some d → E (j + 1) = (d, ph) :: E j → listed.getD j false = true → ph.holds (a.tmps.getD d undef) w) → Q .normal a w := by
   intro listed a w hs hr hu ha hI
   refine hQ a w hu ⟨ha.defers, ha.size, fun i ph hi => ?_⟩
   rcases lk_append hi with h | h
   · obtain ⟨j, o, hsj, hj, ho, hd, he⟩ := hEl _ _ _ hss (Nat.le_refl _) h
     exact hI j o i ph hsj ho hd he (hall listed hs hr j hj)
   exact ha.val i ph h
 intro fuel
 induction fuel with
 | zero =>
   intro listed a w hs hc hlo hu ha hI
   have hnone : ∀ i, i < ops.size → listed.getD i false = true := by
     intro i hi
     have h0 : listed.toList.countP (· == false) = 0 := by omega
     rw [List.countP_eq_zero] at h0
     have hlt : i < listed.size := by omega
     have := h0 listed[i] (by simp)
     rw [Array.getD_eq_getD_getElem?]
     simp only [hlt, Array.getElem?_eq_getElem, Option.getD_some]
     simpa using this
   have hr : Region.ready .any ops listed = [] := by
     unfold Region.ready
     rw [List.filter_eq_nil_iff]
     intro i hi
     have hi' := List.mem_range.1 hi
     have h1 := hnone i hi'
     have hlt : i < listed.size := by omega
     have : listed.getD i true = true := by
       rw [Array.getD_eq_getD_getElem?] at h1 ⊢
       simp only [hlt, Array.getElem?_eq_getElem, Option.getD_some] at h1 ⊢
       exact h1
     simp [this]
   exact ⟨hr, hdone listed a w hs hr hu ha hI⟩
 | succ fuel ih =>
   intro listed a w hs hc hlo hu ha hI
   refine ⟨fun hr => hdone listed a w hs hr hu ha hI, fun i hi => ?_⟩
   unfold Region.ready at hi
   rw [List.mem_filter] at hi
   obtain ⟨hir, hi2⟩ := hi
   have hi' : i < ops.size := List.mem_range.1 hir
   have hio : ops[i]? = some ops[i] := by simp [hi']
   generalize ops[i] = o at hio
   simp only [Bool.and_eq_true, hio, Option.map_some, Option.getD_some] at hi2
   obtain ⟨hb, hed⟩ := hi2
   have hlt : i < listed.size := by omega
   have hbi : listed[i] = false := by
     rw [Array.getD_eq_getD_getElem?] at hb
     simp only [hlt, Array.getElem?_eq_getElem, Option.getD_some] at hb
     simpa using hb
   have hsi : s ≤ i := by
     rcases Nat.lt_or_ge i s with h | h
     · have h1 := hlo i h
       rw [Array.getD_eq_getD_getElem?] at h1
       simp only [hlt, Array.getElem?_eq_getElem, Option.getD_some] at h1
       rw [hbi] at h1; cases h1
     exact h
   obtain ⟨hd0, hon, hpair⟩ := regOK_at hok hio
   obtain ⟨ph, d, hd, hup, hop, hEi⟩ := hE i o hsi hio
   have hdn : d < n := by obtain ⟨d', h1, h2⟩ := hd0; rw [hd] at h1; cases h1; exact h2
   -- what the operation looks at is known
   have hag : Ag n ds (keepSlots (o.looksAt ops) (E i) ++ base) a w := by
     refine ⟨ha.defers, ha.size, fun t q ht => ?_⟩
     rcases lk_append ht with h | h
     · obtain ⟨h1, h2⟩ := keepSlots_lk h
       obtain ⟨j, p, hsj, hj, hp, hpd, hEj⟩ := hEl _ _ _ hsi oQ h2
       obtain ⟨e, he, hbe, hon'⟩ := (hpair j p hp).2 t hpd h1
       have := Array.all_eq_true_iff_forall_mem.1 hed e he
       rw [hbe, hon'] at this
       exact hI j p t q hsj hp hpd hEj (by simpa using this)
     exact ha.val t q h
   have step : ∀ v w', Up w w' → ph.holds v w' → wpAnyIn (FR R) m P .any ops Q fuel (listed.setIfInBounds i true) (a.put o.dst v) w' := by
     intro v w' hu' hv
     have hcnt : (listed.setIfInBounds i true).toList.countP (· == false) ≤ fuel := by
       rw [Array.toList_setIfInBounds, List.countP_set (by simpa using hlt)]
       have hpos : 0 < listed.toList.countP (· == false) := List.countP_pos_iff.2 ⟨listed[i], by simp, by simp [hbi]⟩
       have e1 : (listed.toList[i]'(by simpa using hlt) == false) = true := by simp [hbi]
       rw [if_pos e1, if_neg (by simp)]
       omega
     refine ih _ _ _ (by simpa using hs) hcnt (fun j hj => by rw [getD_set hlt, if_neg (by omega)]; exact hlo j hj) (hu.trans hu') ?_ ?_
     · refine ⟨by rw [hd]; exact ha.defers, by rw [hd]; simp [Act.put, ha.size], fun t q ht => ?_⟩
       have hne : t ≠ d := fun e => (hbase t q ht).2 i o hsi hio (by rw [hd, e])
       rw [hd, getD_put_ne hne]
       exact (hbase t q ht).1 _ _ _ (ha.val t q ht) hu'
     intro j p d' q hsj hp hpd hEj hl
     by_cases e : j = i
     · subst e
       rw [hio] at hp
       cases hp
       rw [hd] at hpd
       cases hpd
       rw [hEi] at hEj
       cases hEj
       rw [hd, getD_put_same (by rw [ha.size]; exact hdn)]
       exact hv
     have hne : d' ≠ d := fun ee => (hpair j p hp).1 (fun ee => e ee.symm) (by rw [hd, hpd, ee])
     rw [hd, getD_put_ne hne]
     obtain ⟨q', d'', hd'', hup', _, hEj'⟩ := hE j p hsj hp
     rw [hEj] at hEj'
     cases hEj'
     have hl' : listed.getD j false = true := by
       rw [Array.getD_eq_getD_getElem?, Array.getElem?_setIfInBounds_ne (fun ee => e ee.symm)] at hl
       rw [Array.getD_eq_getD_getElem?]; exact hl
     exact hup' _ _ _ (hI j p d' q hsj hp hpd hEj hl') hu'
   have h2 := hop a w hu hag
   unfold wpOpIn
   rw [hio]
   dsimp only
   by_cases hw : Region.wanted o (yielded ops a.tmps) = true
   · rw [if_pos hw] at h2 ⊢
     exact wpIn_opY h2 fun v w' ⟨h3, h4⟩ => step v w' h3 h4
   rw [if_neg hw] at h2 ⊢
   exact ⟨fun _ _ => trivial, step _ _ (Up.refl w) h2⟩
theorem mid_order {k : Nat} {w0 : World} {base : Env} {dh : Nat} {oh : Oper} {PostH : Value → World → Prop} (hok : regOK n ops = true) (hC : closOK ops k = true) (hB : behindOK ops k = true) (hkk : k < ops.size) (E : Nat → Env) (hE0 : E 0 = [])
   (hE : ∀ (i : Nat) (o : Oper), i < k → ops[i]? = some o → ∃ ph d, o.dst = some d ∧ phUp ph ∧ HOp P n ds ops w0 (keepSlots (o.looksAt ops) (E i) ++ base) o ph ∧ E (i + 1) = (d, ph) :: E i)
   (hbp : noPred base = true) (hbase : ∀ i ph, lk base i = some ph → ∀ (j : Nat) (o : Oper), ops[j]? = some o → o.dst ≠ some i)
   (hoh : ops[k]? = some oh) (hdh : oh.dst = some dh) (hgh : oh.guard = none)
   (hH : ∀ a w, Up w0 w → Ag n ds (keepSlots (oh.looksAt ops) (E k) ++ base) a w → OpY P oh a w PostH)
   (hQ : ∀ v w1, PostH v w1 → ∃ E2 : Nat → Env, E2 (k + 1) = [] ∧ (∀ (i : Nat) (o : Oper), k + 1 ≤ i → ops[i]? = some o → ∃ ph d, o.dst = some d ∧ phUp ph ∧ HOp P n ds ops w1 (keepSlots (o.looksAt ops) (E2 i) ++ ((dh, .eq v) :: (dropPreds (E k) ++ base))) o ph ∧ E2 (i + 1) = (d, ph) :: E2 i) ∧
     ∀ a w, Up w1 w → Ag n ds (E2 ops.size ++ ((dh, .eq v) :: (dropPreds (E k) ++ base))) a w → Q .normal a w) :
   ∀ (fuel : Nat) (listed : Array Bool) (a : Go.Act) (w : World), listed.size = ops.size → listed.toList.countP (· == false) ≤ fuel → (∀ j, k ≤ j → j < ops.size → listed.getD j false = false) → Dn ops listed → Up w0 w → Ag n ds base a w →
     (∀ (j : Nat) (o : Oper) (d : Nat) (ph : Ph), j < k → ops[j]? = some o → o.dst = some d → E (j + 1) = (d, ph) :: E j → listed.getD j false = true → ph.holds (a.tmps.getD d undef) w) →
     wpAnyIn (FR R) m P .any ops Q fuel listed a w := by
 have hA : aheadOK ops = true := by
   refine List.all_eq_true.2 fun i hi => ?_
   have hi' := List.mem_range.1 hi
   have hio : ops[i]? = some ops[i] := by simp [hi']
   rw [hio]
   dsimp only
   refine Array.all_eq_true_iff_forall_mem.2 fun e he => ?_
   cases hb : Region.binds .any e with
   | false => rfl
   | true => simpa using Nat.ble_eq_true_of_le ((regOK_at hok hio).2.1 e he hb)
 have hE' : ∀ (i : Nat) (o : Oper), i < k → ops[i]? = some o → ∃ ph d, o.dst = some d ∧ E (i + 1) = (d, ph) :: E i := fun i o hi ho => let ⟨ph, d, h1, _, _, h2⟩ := hE i o hi ho; ⟨ph, d, h1, h2⟩
 have hDP := dropPreds_E hE0 hE' oQ
 have hEl : ∀ c i ph, c ≤ k → lk (E c) i = some ph → ∃ j o, j < c ∧ ops[j]? = some o ∧ o.dst = some i ∧ E (j + 1) = (i, ph) :: E j := by
   intro c
   induction c with
   | zero => intro i ph _ h; rw [hE0] at h; cases h
   | succ c ih =>
     intro i ph hk h
     have hko : ops[c]? = some ops[c] := by simp [show c < ops.size by omega]
     obtain ⟨q, d, hd, _, _, he⟩ := hE c _ oQ hko
     rw [he] at h
     by_cases e : i = d
     · subst e
       rw [lk_cons_eq] at h
       cases h
       exact ⟨c, _, by omega, hko, hd, he⟩
     rw [lk_cons_ne e] at h
     obtain ⟨j, o, h1, h2⟩ := ih i ph oQ h
     exact ⟨j, o, by omega, h2⟩
 intro fuel
 induction fuel with
 | zero =>
   intro listed a w hs hc hno hD hu ha hI
   exfalso
   have h0 : listed.toList.countP (· == false) = 0 := by omega
   rw [List.countP_eq_zero] at h0
   have hlt : k < listed.size := by omega
   have := h0 listed[k] (by simp)
   have h1 := hno k (Nat.le_refl _) hkk
   rw [Array.getD_eq_getD_getElem?] at h1
   simp only [hlt, Array.getElem?_eq_getElem, Option.getD_some] at h1
   rw [h1] at this
   simp at this
 | succ fuel ih =>
   intro listed a w hs hc hno hD hu ha hI
   refine ⟨fun hr => ?_, fun i hi => ?_⟩
   · exfalso
     obtain ⟨i, hi⟩ := ready_some hA (k := k + 1) oQ hs k oQ (hno k (Nat.le_refl _) hkk)
     rw [hr] at hi
     cases hi
   obtain ⟨o, hio, hbi, hed⟩ := (ready_iff hs).1 hi
   have hi' : i < ops.size := (Array.getElem?_eq_some_iff.1 hio).1
   have hlt : i < listed.size := by omega
   have hik : i ≤ k := by
     rcases Nat.lt_or_ge k i with h | h
     · exfalso
       obtain ⟨e', he, hb, hon⟩ := behindOK_at hB hio h
       have h1 := hed e' he hb
       have h2 := aheadOK_at hA hio e' he hb
       rw [hno e'.on hon (by omega)] at h1
       cases h1
     exact h
   obtain ⟨hd0, _, hpair⟩ := regOK_at hok hio
   by_cases hkI : i = k
   · subst hkI
     rw [hoh] at hio
     cases hio
     have hdn : dh < n := by obtain ⟨d', h1, h2⟩ := hd0; rw [hdh] at h1; cases h1; exact h2
     have hag : Ag n ds (keepSlots (oh.looksAt ops) (E i) ++ base) a w := by
       refine ⟨ha.defers, ha.size, fun t q ht => ?_⟩
       rcases lk_append ht with h | h
       · obtain ⟨h1, h2⟩ := keepSlots_lk h
         obtain ⟨j, p, hj, hp, hpd, hEj⟩ := hEl _ _ _ (Nat.le_refl _) h2
         obtain ⟨e, he, hbe, hon'⟩ := (hpair j p hp).2 t hpd h1
         have := hed e he hbe
         exact hI j p t q hj hp hpd hEj (by rw [← hon']; exact this)
       exact ha.val t q h
     unfold wpOpIn
     rw [hoh]
     dsimp only
     have hw : Region.wanted oh (yielded ops a.tmps) = true := by simp [Region.wanted, hgh]
     rw [if_pos hw]
     refine wpIn_opY (hH a w hu hag) fun v w' hv => ?_
     obtain ⟨E2, h20, h2E, h2Q⟩ := hQ v w' hv
     have hne : ∀ t, (∃ j p, j ≠ i ∧ ops[j]? = some p ∧ p.dst = some t) → t ≠ dh := fun t ⟨j, p, hj, hp, hpd⟩ e => (hpair j p hp).1 (Ne.symm hj) (by rw [hdh, hpd, e])
     refine any_orderS (w0 := w') (i + 1) oQ hok E2 h20 h2E (fun t ph ht => ?_) h2Q fuel _ _ _ (by simpa using hs) (fuel_set hlt hbi hc) (fun j hj => ?_) (Up.refl _) ⟨by rw [hdh]; exact ha.defers, by rw [hdh]; simp [Go.Act.put, ha.size], fun t q ht => ?_⟩ (fun j o d ph hsj hj _ _ hl => ?_)
     · by_cases e : t = dh
       · subst e
         rw [lk_cons_eq] at ht
         cases ht
         exact ⟨fun _ _ _ h _ => h, fun j p hj hp hd => (hpair j p hp).1 oQ (by rw [hdh, hd])⟩
       rw [lk_cons_ne e] at ht
       rcases lk_append ht with h | h
       · obtain ⟨j, p, hj, hp, hpd, _, hpl⟩ := hDP _ _ _ (Nat.le_refl _) h
         exact ⟨fun _ _ _ h _ => hpl.holds h, fun j2 p2 hj2 hp2 hd2 => ((regOK_at hok hp).2.2 j2 p2 hp2).1 oQ (by rw [hpd, hd2])⟩
       exact ⟨fun _ _ _ hv _ => noPred_lk hbp h hv, fun j2 p2 _ hp2 => hbase t ph h j2 p2 hp2⟩
     · rw [getD_set hlt]
       split
       · rfl
       exact clos_all hC hD hoh hed (i - j) j rfl oQ
     · by_cases e : t = dh
       · subst e
         rw [lk_cons_eq] at ht
         cases ht
         show (((a.put oh.dst v).tmps.getD t undef) = v)
         rw [hdh, getD_put_same (by rw [ha.size]; exact hdn)]
       rw [lk_cons_ne e] at ht
       rw [hdh, getD_put_ne e]
       rcases lk_append ht with h | h
       · obtain ⟨j, p, hj, hp, hpd, hEj, hpl⟩ := hDP _ _ _ (Nat.le_refl _) h
         exact hpl.holds (hI j p t q hj hp hpd hEj (clos_all hC hD hoh hed (i - j) j rfl oQ))
       exact noPred_lk hbp h (ha.val t q h)
     rw [getD_set hlt, if_neg oQ, hno j oQ (Array.getElem?_eq_some_iff.1 hj).1] at hl
     cases hl
   have hik : i < k := by omega
   obtain ⟨ph, d, hd, hup, hop, hEi⟩ := hE i o hik hio
   have hdn : d < n := by obtain ⟨d', h1, h2⟩ := hd0; rw [hd] at h1; cases h1; exact h2
   have hag : Ag n ds (keepSlots (o.looksAt ops) (E i) ++ base) a w := by
     refine ⟨ha.defers, ha.size, fun t q ht => ?_⟩
     rcases lk_append ht with h | h
     · obtain ⟨h1, h2⟩ := keepSlots_lk h
       obtain ⟨j, p, hj, hp, hpd, hEj⟩ := hEl _ _ _ oQ h2
       obtain ⟨e, he, hbe, hon'⟩ := (hpair j p hp).2 t hpd h1
       have := hed e he hbe
       exact hI j p t q oQ hp hpd hEj (by rw [← hon']; exact this)
     exact ha.val t q h
   have step : ∀ v w', Up w w' → ph.holds v w' → wpAnyIn (FR R) m P .any ops Q fuel (listed.setIfInBounds i true) (a.put o.dst v) w' := by
     intro v w' hu' hv
     refine ih _ _ _ (by simpa using hs) (fuel_set hlt hbi hc) ?_ (dn_set hlt hio hed hD) (hu.trans hu') ?_ ?_
     · intro j hj hjs
       rw [getD_set hlt, if_neg (by omega)]
       exact hno j hj hjs
     · refine ⟨by rw [hd]; exact ha.defers, by rw [hd]; simp [Go.Act.put, ha.size], fun t q ht => ?_⟩
       have hne : t ≠ d := fun e => hbase t q ht i o hio (by rw [hd, e])
       rw [hd, getD_put_ne hne]
       exact noPred_lk hbp ht (ha.val t q ht)
     intro j p d' q hjk hp hpd hEj hl
     by_cases e : j = i
     · subst e
       rw [hio] at hp
       cases hp
       rw [hd] at hpd
       cases hpd
       rw [hEi] at hEj
       cases hEj
       rw [hd, getD_put_same (by rw [ha.size]; exact hdn)]
       exact hv
     have hne : d' ≠ d := fun ee => (hpair j p hp).1 (fun ee => e ee.symm) (by rw [hd, hpd, ee])
     rw [hd, getD_put_ne hne]
     obtain ⟨q', d'', hd'', hup', _, hEj'⟩ := hE j p hjk hp
     rw [hEj] at hEj'
     cases hEj'
     rw [getD_set hlt, if_neg e] at hl
     exact hup' _ _ _ (hI j p d' q hjk hp hpd hEj hl) hu'
   have h2 := hop a w hu hag
   unfold wpOpIn
   rw [hio]
   dsimp only
   by_cases hw : Region.wanted o (yielded ops a.tmps) = true
   · rw [if_pos hw] at h2 ⊢
     exact wpIn_opY h2 fun v w' ⟨h3, h4⟩ => step v w' h3 h4
   rw [if_neg hw] at h2 ⊢
   exact ⟨fun _ _ => trivial, step _ _ (Up.refl w) h2⟩
theorem CW.draws_mid {id : Nat} {opsL : List Oper} (k : Nat) {oh : Oper} {dh : Nat} (PostH : Value → World → Prop) (hm : P.follows .mixedOrders = true) (hok : regOK n opsL.toArray = true) (hC : closOK opsL.toArray k = true) (hB : behindOK opsL.toArray k = true)
   (hl : noPred l = true) {base : Env} (hb : dropSlots (dsts opsL) l = base) (hoh : opsL[k]? = some oh) (hdh : oh.dst = some dh) (hgh : oh.guard = none)
   (h : HW P n ds opsL.toArray base w [] (opsL.take k) (fun env => (∀ a w', Up w w' → Ag n ds (keepSlots (oh.looksAt opsL.toArray) env ++ base) a w' → OpY P oh a w' PostH) ∧
     ∀ v w1, PostH v w1 → HW P n ds opsL.toArray ((dh, .eq v) :: (dropPreds env ++ base)) w1 [] (opsL.drop (k + 1)) (fun env2 => ∀ w', Up w1 w' → KW n ds (Q .normal) (env2 ++ ((dh, .eq v) :: (dropPreds env ++ base))) w'))) : CW R m P n ds (.region id opsL.toArray true) Q l w := by
 intro a ha
 obtain ⟨E, hE0, hK, hE⟩ := HW.phs _ _ h
 subst hb
 have hkl : k < opsL.length := (gQ.1 hoh).1
 have hlen : (opsL.take k).length = k := by rw [List.length_take]; omega
 rw [hlen] at hK
 have hbp : noPred (dropSlots (dsts opsL) l) = true := by
   have : ∀ (ks : List Nat) (l : Env), noPred l = true → noPred (dropSlots ks l) = true := by
     intro ks l
     induction l with
     | nil => intro _; rfl
     | cons p l ih =>
       obtain ⟨i, ph⟩ := p
       cases ph with
       | pred q => intro h; simp [noPred] at h
       | eq v => intro h; unfold dropSlots; cases memb ks i <;> simp [noPred] at h ⊢ <;> exact ih h
       | cond b v => intro h; unfold dropSlots; cases memb ks i <;> simp [noPred] at h ⊢ <;> exact ih h
   exact this _ _ hl
 refine wpIn_region_any hm (mid_order (w0 := w) (base := dropSlots (dsts opsL) l) (oh := oh) (PostH := PostH) hok hC hB (by rw [List.size_toArray]; omega) E hE0 (fun i o hik ho => hE i o (by rw [List.getElem?_take_of_lt hik]; simpa using ho)) hbp ?_ (by simpa using hoh) hdh hgh hK.1 ?_ _ _ _ _ (by simp) ?_ ?_ ?_ (Up.drew w) ?_ ?_)
 · intro i ph hi j o ho hd
   obtain ⟨h1, h2⟩ := dropSlots_lk hi
   exact h1 (dsts_mem (by have := List.mem_of_getElem? (l := opsL) (i := j) (by simpa using ho); exact this) hd)
 · intro v w1 hv
   obtain ⟨E2, h0, h1, h2⟩ := HW.phs _ _ (hK.2 v w1 hv)
   refine ⟨fun i => E2 (i - (k + 1)), by simpa using h0, fun i o hki ho => ?_, fun a' w' hu' ha' => ?_⟩
   · obtain ⟨ph, d, h3, h4, h5, h6⟩ := h2 (i - (k + 1)) o (by rw [List.getElem?_drop, Nat.add_sub_cancel' hki]; simpa using ho)
     exact ⟨ph, d, h3, h4, h5, by show E2 (i + 1 - (k + 1)) = (d, ph) :: E2 (i - (k + 1)); rw [← h6, show i + 1 - (k + 1) = i - (k + 1) + 1 by omega]⟩
   refine h1 w' hu' a' ?_
   rw [List.length_drop]
   simpa using ha'
 · have : (Array.replicate opsL.toArray.size false).toList.countP (· == false) ≤ (Array.replicate opsL.toArray.size false).toList.length := List.countP_le_length
   simpa using this
 · intro j _ _
   rw [Array.getD_eq_getD_getElem?, Array.getElem?_replicate]
   split <;> rfl
 · intro i o _ hli
   rw [Array.getD_eq_getD_getElem?, Array.getElem?_replicate] at hli
   split at hli <;> simp at hli
 · exact ⟨ha.defers, ha.size, fun i ph hi => noPred_lk hl (dropSlots_lk hi).2 (ha.val _ _ (dropSlots_lk hi).2)⟩
 intro j o d ph _ ho hd _ hlj
 rw [Array.getD_eq_getD_getElem?, Array.getElem?_replicate] at hlj
 split at hlj <;> simp at hlj
end
end Go.Wx
end
section
namespace Go.Wx
def addS (s : FMap × List (List UInt8)) (f : Fact) : FMap × List (List UInt8) := (bestStep 100000 s.1 f, if chgB s.1 f = true then addK s.2 (keyB f) else s.2)
def addR (m : FMap) (l : List Fact) : FMap × List (List UInt8) := l.foldl addS (m, [])
theorem addR_next {m : FMap} {l : List Fact} {i : Nat} {x : Fact} (h : l[i]? = some x) : addR m (l.take (i + 1)) = addS (addR m (l.take i)) x := by
 unfold addR
 rw [List.take_add_one, h, Option.toList_some, List.foldl_append]
 rfl
theorem addS_yes {s : FMap × List (List UInt8)} {f : Fact} (h : chgB s.1 f = true) : addS s f = (bestStep 100000 s.1 f, addK s.2 (keyB f)) := by unfold addS; rw [if_pos h]
theorem addS_no {s : FMap × List (List UInt8)} {f : Fact} (h : chgB s.1 f = false) : addS s f = (bestStep 100000 s.1 f, s.2) := by unfold addS; rw [h]; rfl
theorem addR_fst (all l : List Fact) : (addR (bestL all 100000) l).1 = bestL (all ++ l) 100000 := by
 have key : ∀ (l : List Fact) (s : FMap × List (List UInt8)), (l.foldl addS s).1 = l.foldl (bestStep 100000) s.1 := by
   intro l
   induction l with
   | nil => exact fun _ => rfl
   | cons x l ih => exact fun s => ih _
 unfold addR bestL
 rw [key, List.foldl_append]
theorem gof_ok {f : Fact} (h : validB f = true) : (gof f).ok := by
 obtain ⟨h1, h2, _⟩ := valid_parts h
 have key : ∀ o, okOff o = true → inI (getF f o) := fun o ho => by
   by_cases e : ∃ x ∈ fieldsOf f.Kind, x.off = o
   · obtain ⟨x, hx, rfl⟩ := e
     have := h2 x hx
     unfold inW at this
     unfold inI
     omega
   rw [h1 o ho fun x hx e' => e ⟨x, hx, e'⟩]
   exact ⟨by decide, by decide⟩
 exact ⟨key 11 cQ, key 12 cQ, key 14 cQ⟩
theorem addD_keys (D : List DE) (g v : Grp) : v ∈ (addD D g).map (·.g) ↔ v ∈ D.map (·.g) ∨ v = g := by
 unfold addD
 split
 · rename_i h
   exact ⟨.inl, fun e => e.elim id fun e => e ▸ h⟩
 rw [List.map_append, List.mem_append]
 exact or_congr Iff.rfl List.mem_singleton
theorem addD_nodup {D : List DE} (h : (D.map (·.g)).Nodup) (g : Grp) : ((addD D g).map (·.g)).Nodup := by
 unfold addD
 split
 · exact h
 rename_i hg
 rw [List.map_append]
 exact List.nodup_append.2 ⟨h, by simp, fun a ha c hc => by simp [de0] at hc; subst hc; exact fun e => hg (e ▸ ha)⟩
theorem regL_keys (l : List Fact) (D : List DE) (v : Grp) : v ∈ (regL D l).map (·.g) ↔ v ∈ D.map (·.g) ∨ ∃ p ∈ l, gof p = v := by
 induction l generalizing D with
 | nil => exact ⟨.inl, fun e => e.elim id fun ⟨_, h, _⟩ => (by cases h)⟩
 | cons x l ih =>
   have := ih (addD D (gof x))
   rw [addD_keys] at this
   show v ∈ (regL (addD D (gof x)) l).map (·.g) ↔ _
   rw [this, or_assoc]
   refine or_congr Iff.rfl ⟨?_, ?_⟩
   · rintro (rfl | ⟨p, hp, e⟩)
     · exact ⟨x, List.mem_cons_self, rfl⟩
     exact ⟨p, List.mem_cons_of_mem _ hp, e⟩
   rintro ⟨p, hp, e⟩
   rcases List.mem_cons.1 hp with rfl | hp
   · exact .inl e.symm
   exact .inr ⟨p, hp, e⟩
theorem grpsL_mem (l : List Fact) (v : Grp) : v ∈ grpsL l ↔ ∃ p ∈ l, gof p = v := by
 have key : ∀ (l : List Fact) (L : List Grp), v ∈ l.foldl (fun L p => addG L (gof p)) L ↔ v ∈ L ∨ ∃ p ∈ l, gof p = v := by
   intro l
   induction l with
   | nil => exact fun L => ⟨.inl, fun e => e.elim id fun ⟨_, h, _⟩ => (by cases h)⟩
   | cons x l ih =>
     intro L
     rw [List.foldl_cons, ih, addG_mem, or_assoc]
     refine or_congr Iff.rfl ⟨?_, ?_⟩
     · rintro (rfl | ⟨p, hp, e⟩)
       · exact ⟨x, List.mem_cons_self, rfl⟩
       exact ⟨p, List.mem_cons_of_mem _ hp, e⟩
     rintro ⟨p, hp, e⟩
     rcases List.mem_cons.1 hp with rfl | hp
     · exact .inl e.symm
     exact .inr ⟨p, hp, e⟩
 unfold grpsL
 rw [key]
 exact ⟨fun e => e.elim (fun h => by cases h) id, .inr⟩
theorem regD_keys (l : List Fact) (D : List DE) (v : Grp) : v ∈ (regD D l).map (·.g) ↔ ∃ p ∈ l, gof p = v := by
 rw [← grpsL_mem]
 constructor
 · intro h
   obtain ⟨e, he, rfl⟩ := List.mem_map.1 h
   exact of_decide_eq_true (List.mem_filter.1 he).2
 intro h
 obtain ⟨e, he, rfl⟩ := List.mem_map.1 ((regL_keys l D v).2 (.inr ((grpsL_mem l v).1 h)))
 exact List.mem_map.2 ⟨e, List.mem_filter.2 ⟨he, decide_eq_true h⟩, rfl⟩
theorem regD_nodup {D : List DE} (l : List Fact) (h : (D.map (·.g)).Nodup) : ((regD D l).map (·.g)).Nodup := by
 have key : ∀ (l : List Fact) (D : List DE), (D.map (·.g)).Nodup → ((regL D l).map (·.g)).Nodup := by
   intro l
   induction l with
   | nil => exact fun _ h => h
   | cons x l ih => exact fun D h => ih _ (addD_nodup h _)
 exact (key l D h).sublist (List.filter_sublist.map _)
theorem st_len {St : List Grp} {l : List Fact} {D : List DE} (hn : St.Nodup) (h : ∀ g ∈ St, g ∈ (regD D l).map (·.g)) : St.length ≤ l.length := by
 have := hn.length_le_of_subset (l₂ := l.map gof) fun g hg => by
   obtain ⟨p, hp, e⟩ := (regD_keys l D g).1 (h g hg)
   exact List.mem_map.2 ⟨p, hp, e⟩
 rwa [List.length_map] at this
def stB (m0 m1 : FMap) (kb : Base) (k : List UInt8) (g : Grp) : Bool := !Fact.eqb (fgz m0 k) (fgz m1 k) && (concB kb (fgz m0 k) g || concB kb (fgz m1 k) g)
theorem EC_set {bf bd : Nat} {bc bc' : Array Go.Value} {n : Int} (h : bc.size = 11) (h' : bc'.size = 11) : setFrom (EC bf bc bd n) 1 bc'.toList = EC bf bc' bd n := by
 obtain ⟨v0, v1, v2, v3, v4, v5, v6, v7, v8, v9, v10, e⟩ := eleven_split (vs := bc.toList) (by simpa using h)
 obtain ⟨u0, u1, u2, u3, u4, u5, u6, u7, u8, u9, u10, e'⟩ := eleven_split (vs := bc'.toList) (by simpa using h')
 obtain ⟨l⟩ := bc
 obtain ⟨l'⟩ := bc'
 dsimp only at e e'
 subst e
 subst e'
 rfl
theorem EC_setw {bf bd : Nat} {bc : Array Go.Value} {n x : Int} (h : bc.size = 11) : (EC bf bc bd n).setIfInBounds 13 (vi x) = EC bf bc bd x := by
 obtain ⟨v0, v1, v2, v3, v4, v5, v6, v7, v8, v9, v10, e⟩ := eleven_split (vs := bc.toList) (by simpa using h)
 obtain ⟨l⟩ := bc
 subst e
 rfl
theorem proc_ok {al : List Fact} {d : Int} : ∀ p ∈ (ofB al d).Processes, (gof p).ok := fun p hp => by
 have h := (lst_mem (j := 0) cQ).1 hp
 exact gof_ok (eff_valid h.1)
theorem two_blk {w w' : World} {a b : Nat} {ca cb : Array Go.Value} {T : TypeId} (u : Up w w') (ha : Blk w' a ca T) (hb : Blk w' b cb T) (la : w.heap.size ≤ a) (lb : w.heap.size ≤ b) (hne : a ≠ b) : Wx.Sep no w w' [aBlk a ca T, aBlk b cb T] :=
 ⟨u.fr _, fun A hA => by
   simp only [List.mem_cons, List.mem_nil_iff, or_false] at hA
   rcases hA with rfl | rfl
   · exact ⟨ha, fun i (e : i = a) => .inr oQ⟩
   exact ⟨hb, fun i (e : i = b) => .inr oQ⟩, List.pairwise_pair.2 fun i (e1 : i = a) (e2 : i = b) => hne (e1.symm.trans e2)⟩
theorem mset_setD {D : List DE} {j : Nat} {e : DE} (hj : D[j]? = some e) (hn : (D.map (·.g)).Nodup) (v : Go.Value) (L : List DP) : Mk.mset (D.map DE.kv) e.g v = (D.set j ⟨e.g, v, L⟩).map DE.kv := by
 have hm : e.g ∈ (D.map DE.kv).map (·.1) := by rw [kv_keys]; exact List.mem_map.2 ⟨e, List.mem_of_getElem? hj, rfl⟩
 unfold Mk.mset
 rw [if_pos hm]
 apply List.ext_getElem?
 intro i
 rw [List.getElem?_map, List.getElem?_map, List.getElem?_map, List.getElem?_set]
 have hjl := (gQ.1 hj).1
 by_cases e1 : j = i
 · subst e1
   rw [if_pos rfl, if_pos hjl, hj]
   show some (if e.g = e.g then (e.g, v) else e.kv) = some (e.g, v)
   rw [if_pos rfl]
 rw [if_neg e1]
 cases hi : D[i]? with
 | none => rfl
 | some f =>
   show some (if f.g = e.g then (e.g, v) else f.kv) = some f.kv
   rw [if_neg fun eg => ?_]
   have h1 : (D.map (·.g))[i]? = some f.g := by rw [List.getElem?_map, hi]; rfl
   have h2 : (D.map (·.g))[j]? = some e.g := by rw [List.getElem?_map, hj]; rfl
   exact e1 ((List.getElem?_inj (by simpa using hjl) hn).1 (by rw [h1, h2, eg]))
theorem ms_len0 {T : List (List UInt8)} (h : (((T.map unK).length : Nat) : Int) = 0) : T = [] := List.eq_nil_of_length_eq_zero (by rw [List.length_map] at h; omega)
theorem unK_mem {L : List (List UInt8)} {s : List UInt8} {v : Go.Value} (h : (s, v) ∈ L.map unK) : s ∈ L := by
 obtain ⟨x, hx, e⟩ := List.mem_map.1 h
 cases e
 exact hx
theorem st_more {P : List UInt8 → Grp → Bool} {S S1 K : List Grp} {V : List (List UInt8)} {k : List UInt8} (h : ∀ g, g ∈ S ↔ g ∈ K ∧ ∃ k ∈ V, P k g = true) (h1 : ∀ g, g ∈ S1 ↔ g ∈ S ∨ (g ∈ K ∧ P k g = true)) : ∀ g, g ∈ S1 ↔ g ∈ K ∧ ∃ k' ∈ V ++ [k], P k' g = true := fun g => by
 rw [h1 g, h g]
 constructor
 · rintro (⟨hk, q, hq, hp⟩ | ⟨hk, hp⟩)
   · exact ⟨hk, q, List.mem_append_left _ hq, hp⟩
   exact ⟨hk, k, List.mem_append_right _ (List.mem_singleton.2 rfl), hp⟩
 rintro ⟨hk, q, hq, hp⟩
 rcases List.mem_append.1 hq with hq | hq
 · exact .inl ⟨hk, q, hq, hp⟩
 rw [List.mem_singleton.1 hq] at hp; exact .inr ⟨hk, hp⟩
theorem st_two {kb : Base} {a b : Fact} {S S1 K : List Grp} (h : ∀ g, g ∈ S1 ↔ g ∈ S ∨ (g ∈ K ∧ (([a, b].take 2).any fun f => concB kb f g) = true)) (hne : Fact.eqb a b = false) : ∀ g, g ∈ S1 ↔ g ∈ S ∨ (g ∈ K ∧ (!Fact.eqb a b && (concB kb a g || concB kb b g)) = true) := fun g => by
 rw [h g, hne]
 simp
theorem st_one {kb : Base} {fs : List Fact} {S S1 S2 K : List Grp} {j : Nat} {x : Fact} (hx : fs[j]? = some x) (h : ∀ g, g ∈ S1 ↔ g ∈ S ∨ (g ∈ K ∧ ((fs.take j).any fun f => concB kb f g) = true)) (h2 : ∀ g, g ∈ S2 ↔ g ∈ S1 ∨ (g ∈ K ∧ concB kb x g = true)) : ∀ g, g ∈ S2 ↔ g ∈ S ∨ (g ∈ K ∧ ((fs.take (j + 1)).any fun f => concB kb f g) = true) := fun g => by
 rw [h2 g, h g, List.take_add_one, hx, List.any_append]
 simp only [Option.toList_some, List.any_cons, List.any_nil, Bool.or_false, Bool.or_eq_true]
 constructor
 · rintro ((h | ⟨h, h'⟩) | ⟨h, h'⟩)
   · exact .inl h
   · exact .inr ⟨h, .inl h'⟩
   exact .inr ⟨h, .inr h'⟩
 rintro (h | ⟨h, h' | h'⟩)
 · exact .inl (.inl h)
 · exact .inl (.inr ⟨h, h'⟩)
 exact .inr ⟨h, h'⟩
theorem st_none {S K : List Grp} {p : Grp → Bool} (h : ∀ g, p g = false) : ∀ g, g ∈ S ↔ g ∈ S ∨ (g ∈ K ∧ p g = true) := fun g => ⟨.inl, fun e => e.elim id fun ⟨_, e⟩ => by rw [h g] at e; cases e⟩
theorem conc_gone {kb : Base} {f : Fact} (h : f.Gone = true) (g : Grp) : concB kb f g = false := by unfold concB; rw [h]; rfl
def dk (kb : Base) (e : DE) : Prop := e.L.map DP.dec = desF kb e.g.t e.g.c e.g.r
theorem de_set {kb : Base} {D D1 : List DE} {V : List Grp} {j : Nat} {e : DE} {v : Go.Value} {L : List DP} (h : ∀ e ∈ D, (e.g ∈ V → dk kb e) ∧ (e.g ∉ V → e ∈ D1)) (hj : D[j]? = some e) (hn : (D.map (·.g)).Nodup) (hL : L.map DP.dec = desF kb e.g.t e.g.c e.g.r) : ∀ f ∈ D.set j ⟨e.g, v, L⟩, (f.g ∈ V ++ [e.g] → dk kb f) ∧ (f.g ∉ V ++ [e.g] → f ∈ D1) := fun f hf => by
 have hjl := (gQ.1 hj).1
 obtain ⟨i, hi⟩ := List.getElem?_of_mem hf
 rw [List.getElem?_set] at hi
 by_cases e1 : j = i
 · subst e1
   rw [if_pos rfl, if_pos hjl] at hi
   cases hi
   exact ⟨fun _ => hL, fun h => absurd (List.mem_append_right _ (List.mem_singleton.2 rfl)) h⟩
 rw [if_neg e1] at hi
 have hfD := List.mem_of_getElem? hi
 have hfe : f.g ≠ e.g := fun eg => by
   have h1 : (D.map (·.g))[i]? = some f.g := by rw [List.getElem?_map, hi]; rfl
   have h2 : (D.map (·.g))[j]? = some e.g := by rw [List.getElem?_map, hj]; rfl
   exact e1 ((List.getElem?_inj (by simpa using hjl) hn).1 (by rw [h1, h2, eg]))
 obtain ⟨a, b⟩ := h f hfD
 refine ⟨fun hm => ?_, fun hm => b fun hV => hm (List.mem_append_left _ hV)⟩
 rcases List.mem_append.1 hm with hm | hm
 · exact a hm
 exact absurd (List.mem_singleton.1 hm) hfe
theorem de_find {D D1 : List DE} {k : Grp} (h : D.map (·.g) = D1.map (·.g)) (hk : k ∈ D1.map (·.g)) : ∃ (j : Nat) (e : DE), D[j]? = some e ∧ e.g = k := by
 rw [← h] at hk
 obtain ⟨e, he, hg⟩ := List.mem_map.1 hk
 obtain ⟨j, hj⟩ := List.getElem?_of_mem he
 exact ⟨j, e, hj, hg⟩
theorem de_keys {D : List DE} {j : Nat} {e : DE} {v : Go.Value} {L : List DP} (hj : D[j]? = some e) : (D.set j ⟨e.g, v, L⟩).map (·.g) = D.map (·.g) := by
 rw [List.map_set]
 have h2 : (D.map (·.g))[j]? = some e.g := by rw [List.getElem?_map, hj]; rfl
 obtain ⟨hl, e2⟩ := gQ.1 h2
 show (D.map (·.g)).set j e.g = _
 rw [← e2]
 exact List.set_getElem_self hl
end Go.Wx
namespace Go.Proofs.YtbbpkdlehlamlaaGreatDoor
open Go.Proofs.Tryz
open Go.Wx Go.RowKit
theorem aDs_of {g : Grp} {v : Go.Value} {L : List DP} {w w' : World} (h : Wx.Sep no w w' [aOwn 48 6 DP.cells v L, aAnd (usesA 3 L)]) : (aDs ⟨g, v, L⟩).holds w' := ⟨fun A hA => (h.each A hA).1, h.apart⟩
theorem aDs_low {g : Grp} {v : Go.Value} {L : List DP} {w w' : World} (h : Wx.Sep no w w' [aOwn 48 6 DP.cells v L, aAnd (usesA 3 L)]) : ∀ i, (aDs ⟨g, v, L⟩).foot i → w.heap.size ≤ i := fun i ⟨A, hA, hi⟩ => ((h.each A hA).2 i hi).resolve_left (fun h => h)
set_option maxHeartbeats 4000000 in
theorem Add_walk (E bf bd : Nat) (bc : Array Go.Value) (nw : Int) (all : List Fact) (kb : Base) (D : List DE) (ad : Option Addr) (cp : Nat) (l : List Fact) (w : World) (hbc : bc.size = 11) (hnw : 0 ≤ nw ∧ nw ≤ 100000) (hl : (all ++ l).length ≤ 100) (hDg : (D.map (·.g)).Nodup) (hEl : Els w ad 19 Fact.cells l) (hLb : l ≠ [] → ∀ B o, ad = some ⟨B, o, none⟩ → ¬ footL [aBlk E (EC bf bc bd (nw)) 80, Ms.aIMap bf (encM (bestL all 100000)), aBase bc kb, Mk.aIMap grpK bd ((D).map DE.kv), aDD (D)] B) (hS0 : Wx.Sep (footL [aBlk E (EC bf bc bd (nw)) 80, Ms.aIMap bf (encM (bestL all 100000)), aBase bc kb, Mk.aIMap grpK bd ((D).map DE.kv), aDD (D)]) w w [aBlk E (EC bf bc bd (nw)) 80, Ms.aIMap bf (encM (bestL all 100000)), aBase bc kb, Mk.aIMap grpK bd ((D).map DE.kv), aDD (D)]) : Ret prog 13 #[.pointer (some ⟨E, 0, none⟩), .slice ad l.length cp] w fun r w' => ((addR (bestL all 100000) l).2 = [] ∧ r = vi 0 ∧ Wx.Sep (footL [aBlk E (EC bf bc bd (nw)) 80, Ms.aIMap bf (encM (bestL all 100000)), aBase bc kb, Mk.aIMap grpK bd ((D).map DE.kv), aDD (D)]) w w' [aBlk E (EC bf bc bd (nw)) 80, Ms.aIMap bf (encM (bestL (all ++ l) 100000)), aBase bc kb, Mk.aIMap grpK bd ((D).map DE.kv), aDD (D)]) ∨ (∃ (bc1 : Array Go.Value) (St : List Grp) (D2 : List DE), (addR (bestL all 100000) l).2 ≠ [] ∧ r = vi ((St.length : Nat) : Int) ∧ St.Nodup ∧ (∀ g, g ∈ St ↔ g ∈ (regD D (ofB (all ++ l) 100000).Processes).map (·.g) ∧ ∃ k ∈ (addR (bestL all 100000) l).2, stB (bestL all 100000) (bestL (all ++ l) 100000) (ofB (all ++ l) 100000) k g = true) ∧ D2.map (·.g) = (regD D (ofB (all ++ l) 100000).Processes).map (·.g) ∧ (∀ e ∈ D2, (e.g ∈ St → dk (ofB (all ++ l) 100000) e) ∧ (e.g ∉ St → e ∈ regD D (ofB (all ++ l) 100000).Processes)) ∧ bc1.size = 11 ∧ Wx.Sep (footL [aBlk E (EC bf bc bd (nw)) 80, Ms.aIMap bf (encM (bestL all 100000)), aBase bc kb, Mk.aIMap grpK bd ((D).map DE.kv), aDD (D)]) w w' [aBlk E (EC bf bc1 bd (nw + ((St.length : Nat) : Int))) 80, Ms.aIMap bf (encM (bestL (all ++ l) 100000)), aBase bc1 (ofB (all ++ l) 100000), Mk.aIMap grpK bd ((D2).map DE.kv), aDD (D2)]) := by
 have hll : l.length ≤ 100 := by rw [List.length_append] at hl; omega
 obtain ⟨w0, rfl⟩ : ∃ w0, w0 = w := ⟨_, rfl⟩
 have hS := hS0
 refine cS (n := 139) (m := 9) func13 rfl rfl rfl (CW.S (LW.C (LW.S (CW.S (LW.M rfl (LW.pp (.fa (PEv.eqlNil underlying28 (.t rfl)) (rfl)) (LW.T (CW.cond_false (.t rfl) (CW.skip (KW.then (CW.S (LW.M rfl (LW.pp (.nilCheck (.t rfl)) (LW.pp (.fA 0 underlying80 rfl sizeOf77 rfl) (LW.pp (.ld isAgg77 rfl ((hS.blk 0 rfl).cell EC_facts)) (LW.K (eC (.o rfl) (en37)) rfl (cloneM_any bf _ _ (hS.get 1 rfl)) ?_))))))))))))))))
 rintro _ w1 ⟨b5, rfl, hBf, zb5, uw1⟩
 replace hS := hS.add uw1 (A' := Ms.aIMap b5 (encM (bestL all 100000))) (hBf) (fun i (e : i = b5) => by rw [e]; exact zb5)
 refine LW.A rfl (LW.S (CW.region (LW.r Ms.REv.makeMap rfl rfl rfl rfl ?_)))
 rintro _ w2 ⟨M24, rfl, hMM, uw2, eM, zM⟩
 replace hS := hS.add uw2 (A' := Ms.aIMap M24 ((addR (bestL all 100000) (l.take 0)).2.map unK)) hMM (fun i (e : i = M24) => by omega)
 refine LW.A rfl (LW.S (CW.S (LW.M rfl (LW.pp (.lenS underlying26 (.t rfl)) (LW.pp (.move (.const _)) (LW.T (CW.block (CW.loopB (σ := Nat) (fun s w => (s ≤ l.length) ∧ (Wx.Sep (footL [aBlk E (EC bf bc bd (nw)) 80, Ms.aIMap bf (encM (bestL all 100000)), aBase bc kb, Mk.aIMap grpK bd ((D).map DE.kv), aDD (D)]) w0 w [aBlk E (EC bf bc bd (nw)) 80, Ms.aIMap bf (encM (addR (bestL all 100000) (l.take s)).1), aBase bc kb, Mk.aIMap grpK bd ((D).map DE.kv), aDD (D), Ms.aIMap b5 (encM (bestL all 100000)), Ms.aIMap M24 (((addR (bestL all 100000) (l.take s)).2).map unK)])) (fun s => [(27, .eq (vi (s : Int)))]) ([(0, .eq _), (4, .eq _), (5, .eq _), (6, .eq _), (25, .eq _), (26, .eq _)]) (fun s => l.length - s) 0 ?_ ⟨rfl, rfl, rfl, rfl, rfl, rfl, rfl, trivial⟩ ?_))))))))
 ·exact ⟨Nat.zero_le _, hS⟩
 rintro i w3 ⟨hi, hS⟩
 refine CW.S (LW.pp (.lss (.t rfl) (.t rfl)) (LW.S (CW.cond (.t rfl) (fun h28 => ?_) (fun h28 => ?_))))
 ·replace h28 := dQ h28
  refine CW.skip (KW.then (CW.seq (CW.block (CW.seq ?_))))
  have hil : i < l.length := by omega
  obtain ⟨x, hx⟩ : ∃ x, l[i]? = some x := ⟨_, List.getElem?_eq_getElem hil⟩
  obtain ⟨Bx, ox, ax, hcx⟩ := (Els.fr hEl hS.fr (fun B o ea => hLb (fun e => by rw [e] at hil; simp at hil) B o ea)) i x hx
  refine CW.region (LW.pp (.indexAddr' underlying26 sizeOf24 (j := i) (.t rfl) (.t rfl) oQ ax) (LW.pp (.la isAgg24 sizeOf24 rfl (hcx)) (LW.rr (.allocA zeroValue24) rfl ?_)))
  rintro _ w4 ⟨B8, rfl, MB8⟩
  refine LW.E (.storeA sizeOf24 rfl (.t rfl) (.t rfl) (Fact.one _) MB8.blk rfl) ?_
  intro w5 LB8
  have NB8 := MB8.set LB8
  replace hS := hS.addB NB8
  refine LW.S (CW.draws_mid 5 (fun v W => ∃ ad3 k3 cp3, v = .slice ad3 k3 cp3 ∧ decide ((k3 : Int) > 0) = chgB (addR (bestL all 100000) (l.take i)).1 x ∧ Wx.Sep (footL [aBlk E (EC bf bc bd (nw)) 80, Ms.aIMap bf (encM (bestL all 100000)), aBase bc kb, Mk.aIMap grpK bd ((D).map DE.kv), aDD (D)]) w0 W [aBlk E (EC bf bc bd (nw)) 80, Ms.aIMap bf (encM (bestStep 100000 (addR (bestL all 100000) (l.take i)).1 x)), aBase bc kb, Mk.aIMap grpK bd ((D).map DE.kv), aDD (D), Ms.aIMap b5 (encM (bestL all 100000)), Ms.aIMap M24 (((addR (bestL all 100000) (l.take i)).2).map unK), aBlk B8 x.cells 24]) kQ kQ kQ kQ rfl rfl rfl rfl rfl (HW.pp (.move (.t rfl)) (HW.pp (.nilCheck (.t rfl)) (HW.pp (.fA 0 underlying80 rfl sizeOf77 rfl) (HW.pp (.ld isAgg77 rfl ((hS.blk 0 rfl).cell EC_facts)) (HW.pp (.la isAgg24 sizeOf24 rfl ((hS.blk 7 rfl).agg)) (HW.nil ⟨fun a w' hu ha => ?_, ?_⟩)))))))
  ·skip
   refine .inr ⟨_, _, w', enter_call0 (.cons (.t rfl) (.cons (.t rfl) .nil)) (en38) a ha, (eput_any bf _ x _ ((hS.up hu).get 1 rfl)).mono fun v w'' h => ?_⟩
   obtain ⟨ad3, k3, cp3, h1, h2, h3⟩ := h
   exact ⟨ad3, k3, cp3, h1, h2, (hS.up hu).stp 1 rfl h3⟩
  intro v36 w6
  rintro ⟨ad3, k3, cp3, rfl, hk3, hS⟩
  refine HW.pp (.lenS underlying26 (.t rfl)) (HW.pp (.as (v' := .bool (chgB (addR (bestL all 100000) (l.take i)).1 x)) (PEv.gtr (.t rfl) (.const _)) (congrArg Go.Value.bool hk3)) (HW.nil ?_))
  intro w7 uw7
  replace hS := hS.up uw7
  refine KW.then (CW.cond (.t rfl) (fun h38 => ?_) (fun h38 => ?_))
  ·replace h38 := dQ h38
   refine CW.region (LW.M rfl (LW.pp (.la isAgg24 sizeOf24 rfl ((hS.blk 7 rfl).agg)) (LW.K (eC (.o rfl) (en39)) rfl (Key_any x _) ?_)))
   rintro _ w8 ⟨rfl, uw8⟩
   replace hS := hS.up uw8
   refine LW.pp (.build (cs := #[]) underlying84 zeroValue84 Tryz.places84 .nil rfl) (LW.E (Ms.SEv.mapUpdate underlying82 underlying9 (.t rfl) (.t rfl) (.t rfl) (hS.get 6 rfl)) ?_)
   rintro w9 ⟨Mu, Ku, zu⟩
   rw [mset_unK] at Mu
   replace hS := hS.stp 6 rfl (Ms.stp_set Mu Ku)
   refine LW.nil (KW.inBlock (KW.then (CW.region (LW.pp (.inc (.t rfl) oQ) (LW.M rfl (LW.nil (KW.round ?_)))))))
   exact ⟨i + 1, ⟨by omega, by rw [addR_next hx]; (rw [addS_yes h38]; exact hS.take 7)⟩, ⟨rfl, rfl, rfl, rfl, rfl, rfl, rfl, trivial⟩, by omega⟩
  replace h38 := dQ h38
  refine CW.skip (KW.inBlock (KW.then (CW.region (LW.pp (.inc (.t rfl) oQ) (LW.M rfl (LW.nil (KW.round ?_)))))))
  exact ⟨i + 1, ⟨by omega, by rw [addR_next hx]; (rw [addS_no (by simpa using h38)]; exact hS.take 7)⟩, ⟨rfl, rfl, rfl, rfl, rfl, rfl, rfl, trivial⟩, by omega⟩
 replace h28 := dQ h28
 refine CW.exit (KW.then_exit (KW.then_exit (KW.block_hit (KW.then (CW.seq (CW.seq ?_))))))
 have hie : i = l.length := by omega
 rw [hie, List.take_length] at hS
 obtain ⟨T, eT⟩ : ∃ T, T = (addR (bestL all 100000) l).2 := ⟨_, rfl⟩
 rw [← eT, addR_fst] at hS
 obtain ⟨al2, e2⟩ : ∃ x, x = all ++ l := ⟨_, rfl⟩
 have hal2 : al2.length ≤ 100 := by rw [e2]; exact hl
 rw [← e2] at hS
 refine CW.region (LW.M rfl (LW.pp (msLen underlying82 (.t rfl) (hS.get 6 rfl)) (LW.pp (.eql (.t rfl) (.const _)) (LW.T (CW.cond (.t rfl) (fun h46 => ?_) (fun h46 => ?_))))))
 ·replace h46 := dQ h46
  have hT0 := ms_len0 h46
  refine CW.S (LW.C (LW.T (CW.ret (KW.then_ret (KW.ret1 rfl rfl ⟨_, rfl, ?_⟩)))))
  have hSz := hS
  (subst e2 eT; exact .inl ⟨hT0, rfl, hSz.take 5⟩)
 replace h46 := dQ h46
 have hT0 : T ≠ [] := fun e => h46 (by rw [e]; rfl)
 refine CW.skip (KW.then (CW.S (LW.M rfl (LW.M rfl (LW.pp (.nilCheck (.t rfl)) (LW.pp (.fA 0 underlying80 rfl sizeOf77 rfl) (LW.pp (.ld isAgg77 rfl ((hS.blk 0 rfl).cell EC_facts)) (LW.K (eC (.o rfl) (en41)) rfl (valuesF_any bf _) ?_))))))))
 rintro _ w10 ⟨⟨BK, rfl, hBK, zK⟩, uw10⟩
 replace hS := hS.up uw10
 have zBK := hBK.lt
 have hMk2 := hS.get 1 rfl
 have zMk := Ms.IMap.lt hMk2
 refine LW.K (eC (.o rfl) (en40)) rfl (collectF_any _ _ _ _ _ _ en75 (fun W X Y u hX hY => valuesF_iter X Y BK bf (bestL al2 100000) W (fun i h => (hY i h).2) (fun h => by have := hX _ h; omega) (fun h => by have := (hY _ h).1; omega) (best_ok 100000 al2).1 (best_nodup al2 100000) (hBK.up u) (Ms.IMap.up hMk2 u)) (by have := (best_ok 100000 al2).2; omega)) ?_
 rintro v53 w11 ⟨ks, hks, hO, hOn, uw11⟩
 replace hS := hS.add uw11 (A' := aOwn 24 19 Fact.cells v53 ks) (hO) (hOn)
 obtain ⟨adk, cpk, rfl, _⟩ := (hS.own 7 rfl).sl (fun _ => rfl)
 have hkl : ks.length ≤ 100000 := by have := (best_ok 100000 al2).2; have e := hks.length_eq; simp only [factsM, List.length_map] at e; omega
 refine LW.K (eC (.cons (.t rfl) (.cons (.const _) .nil)) (en32)) rfl (Of_own adk cpk ks 100000 _ ((hS.own 7 rfl).els (fun _ => rfl)) hkl) ?_
 rintro _ w12 ⟨bc1, rfl, hC1, hb1, uw12⟩
 have zw12 := uw12.size
 replace hS := hS.add uw12 (A' := aBase bc1 (ofB al2 100000)) (by rw [ofB_facts hks] at hC1; exact hC1) (aBase_low hb1)
 have hsz1 : bc1.size = 11 := BaseC.size hC1
 have hon1 := BaseC.one hC1
 have hpk : ∀ p ∈ (ofB al2 100000).Processes, (gof p).ok := proc_ok
 have hsh := ofB_shortN (l := al2) (n := 100) hal2 100000
 obtain ⟨kb1, ek1⟩ : ∃ b, b = ofB al2 100000 := ⟨_, rfl⟩
 rw [← ek1] at hS hpk hsh
 have hlP : kb1.Processes.length ≤ 100 := hsh 0
 have hlM : kb1.Measures.length ≤ 100 := hsh 1
 have hlR : kb1.Resets.length ≤ 100 := hsh 8
 have hlT : kb1.Targets.length ≤ 100 := hsh 9
 refine LW.pp (.nilCheck (.t rfl)) (LW.pp (.fA 1 underlying80 rfl sizeOf32 rfl) (LW.E (.storePart sizeOf32 hsz1 (.t rfl) (.t rfl) hon1 (hS.blk 0 rfl) (by rw [EC_size hbc, hsz1]; decide)) ?_))
 intro w13 Nw13
 rw [EC_set hbc hsz1] at Nw13
 replace hS := hS.putB 0 rfl Nw13
 refine LW.S (CW.region (LW.M rfl ?_))
 replace hS := hS.pull 3 rfl
 have hq_ := (show Wx.Sep _ _ _ ([_, _, _, _, _, _, _, _] ++ [_]) from hS)
 obtain ⟨_, hvp, adp, cpp, rfl, hEp⟩ := BaseC.at_ (hS.get 7 rfl) (j := 0) cQ
 replace hvp : bc1[0]? = some (.slice adp kb1.Processes.length cpp) := hvp
 have hPb : kb1.Processes ≠ [] → ∀ B o, adp = some ⟨B, o, none⟩ → B ≠ bd := fun hne B o ea => sepNe hS (show 7 < 8 by decide) rfl rfl B ⟨0, _, hvp, by rw [ea]; rfl, hne⟩
 refine LW.K (eC (.o rfl) (en42)) rfl (regroup_any E bf bd bc1 nw kb1 adp cpp D _ (hS.blk 0 rfl) hsz1 hvp hEp hPb hpk oQ (hq_.dis ⟨_, List.mem_cons_self, rfl⟩) hq_.right.self) ?_
 rintro _ w14 ⟨rfl, uw14⟩
 replace hS := hq_.frame uw14
 replace hS := hS.stp 3 rfl (aDD_reg kb1.Processes (hS.get 3 rfl))
 have hD1n := regD_nodup kb1.Processes hDg
 obtain ⟨D1, eD1⟩ : ∃ x, x = regD D kb1.Processes := ⟨_, rfl⟩
 rw [← eD1] at hS hD1n
 replace hS := hS.sub (.cons_cons _ (.cons_cons _ (.cons _ (.cons_cons _ (.cons_cons _ (.cons_cons _ (.cons _ (.cons_cons _ (.cons_cons _ .slnil)))))))))
 refine LW.S (CW.region (LW.M rfl (LW.rr (Mk.REv.makeMap (Q := grpK)) rfl ?_)))
 rintro _ w15 ⟨M60, rfl, hMM, uw15, eM60, zM60⟩
 replace hS := hS.add uw15 (A' := Mk.aIMap grpK M60 (([] : List Grp).map unG)) hMM (fun i (e : i = M60) => by omega)
 refine LW.pp (.build (cs := #[.pointer (some ⟨E, 0, none⟩), .map (some M60)]) underlying92 zeroValue92 Tryz.places92 (.cons (.t rfl) (.cons (.t rfl) .nil)) rfl) (LW.rr (.allocA zeroValue92) rfl ?_)
 rintro _ w16 ⟨B9, rfl, MB9⟩
 refine LW.E (.storeA sizeOf92 rfl (.t rfl) (.t rfl) (by simp [Value.oneCell']) MB9.blk rfl) ?_
 intro w17 LB9
 have NB9 := MB9.set LB9
 replace hS := hS.addB NB9
 refine LW.nil ?_
 replace hS := hS.pull 6 rfl
 replace hS := hS.pull 6 rfl
 refine KW.then (CW.seq (CW.S (LW.M rfl (LW.rr (Ms.REv.range underlying82 (.t rfl) (hS.get 4 rfl)) rfl ?_))))
 rintro _ w18 ⟨r63, rfl, hR_, uR, eR, zR⟩
 replace hS := hS.stp 4 rfl (Ms.stp_range hR_ uR eR)
 refine LW.T (CW.block (CW.loopB (σ := List (List UInt8) × List Grp) (fun s w => (s.1.Nodup ∧ ∀ k ∈ s.1, k ∈ T) ∧ (∀ g, g ∈ s.2 ↔ g ∈ D1.map (·.g) ∧ ∃ k ∈ s.1, stB (bestL all 100000) (bestL al2 100000) kb1 k g = true) ∧ (Wx.Sep (footL [aBlk E (EC bf bc bd (nw)) 80, Ms.aIMap bf (encM (bestL all 100000)), aBase bc kb, Mk.aIMap grpK bd ((D).map DE.kv), aDD (D)]) w0 w [aBlk E (EC bf bc1 bd (nw)) 80, Ms.aIMap bf (encM (bestL al2 100000)), aDD (D1), Ms.aIMap b5 (encM (bestL all 100000)), Ms.aIRng M24 r63 (T.map unK) s.1, aBase bc1 kb1, aBlk B9 #[.pointer (some ⟨E, 0, none⟩), .map (some M60)] 92, Mk.aIMap grpK bd ((D1).map DE.kv), Mk.aIMap grpK M60 ((s.2).map unG)])) (fun s => []) ([(0, .eq _), (4, .eq _), (5, .eq _), (9, .eq _), (63, .eq _)]) (fun s => T.length - s.1.length) ([], []) ?_ ⟨rfl, rfl, rfl, rfl, rfl, trivial⟩ ?_))
 ·exact ⟨⟨List.nodup_nil, fun _ h => (by cases h)⟩, fun g => ⟨fun h => (by cases h), fun ⟨_, _, h, _⟩ => (by cases h)⟩, hS⟩
 rintro ⟨V, St⟩ w19 ⟨hV, hStm, hS⟩
 refine CW.S (LW.rr (Ms.REv.next (.t rfl) (hS.get 4 rfl)) rfl ?_)
 rintro _ w20 (⟨rfl, rfl, hPm⟩ | ⟨k0, u0, rfl, hNx⟩)
 ·skip
  refine LW.pp (.extract (.t rfl) rfl) (LW.S (CW.cond_false (.t rfl) (CW.exit (KW.then_exit (KW.then_exit (KW.block_hit (KW.then (CW.seq (CW.seq ?_)))))))))
  have hStN := Mk.IMap.nodup (hS.get 8 rfl)
  rw [unG_keys] at hStN
  have hVT : ∀ k, k ∈ V ↔ k ∈ T := fun k => by have := hPm.mem_iff (a := k); rwa [unK_keys] at this
  simp only [hVT] at hStm
  refine CW.region (LW.pp (.fA 1 underlying92 rfl sizeOf90 rfl) (LW.pp (.ld isAgg90 rfl ((hS.blk 6 rfl).celln rfl)) (LW.rr (Mk.REv.range (Q := grpK) underlying90 (.t rfl) (hS.get 8 rfl)) rfl ?_)))
  rintro _ w21 ⟨r105, rfl, hR_, uR, eR, zR⟩
  replace hS := hS.stp 8 rfl (Mk.stp_range hR_ uR eR)
  refine LW.T (CW.block (CW.loopB (σ := List Grp × List DE) (fun s w => (s.1.Nodup ∧ ∀ k ∈ s.1, k ∈ St) ∧ (s.2.map (·.g) = D1.map (·.g)) ∧ (∀ e ∈ s.2, (e.g ∈ s.1 → dk kb1 e) ∧ (e.g ∉ s.1 → e ∈ D1)) ∧ (Wx.Sep (footL [aBlk E (EC bf bc bd (nw)) 80, Ms.aIMap bf (encM (bestL all 100000)), aBase bc kb, Mk.aIMap grpK bd ((D).map DE.kv), aDD (D)]) w0 w [aBlk E (EC bf bc1 bd (nw)) 80, Ms.aIMap bf (encM (bestL al2 100000)), aDD (s.2), Ms.aIMap b5 (encM (bestL all 100000)), Ms.aIRng M24 r63 (T.map unK) V, aBase bc1 kb1, aBlk B9 #[.pointer (some ⟨E, 0, none⟩), .map (some M60)] 92, Mk.aIMap grpK bd ((s.2).map DE.kv), Mk.aIRng grpK M60 r105 (St.map unG) s.1])) (fun s => []) ([(0, .eq _), (4, .eq _), (9, .eq _), (105, .eq _)]) (fun s => St.length - s.1.length) ([], D1) ?_ ⟨rfl, rfl, rfl, rfl, trivial⟩ ?_))
  ·exact ⟨⟨List.nodup_nil, fun _ h => (by cases h)⟩, rfl, fun e he => ⟨fun h => (by cases h), fun _ => he⟩, hS⟩
  rintro ⟨V2, DV⟩ w22 ⟨hVV, hDk, hDv, hS⟩
  refine CW.seq ?_
  skip
  refine CW.region (LW.rr (Mk.REv.next (.t rfl) (hS.get 8 rfl)) rfl ?_)
  rintro _ w23 (⟨rfl, rfl, hPm⟩ | ⟨k1, u1, rfl, hNx⟩)
  ·skip
   refine LW.pp (.extract (.t rfl) rfl) (LW.S (CW.cond_false (.t rfl) (CW.exit (KW.then_exit (KW.then_exit (KW.block_hit (KW.then (CW.seq ?_))))))))
   have hVS : ∀ k, k ∈ V2 ↔ k ∈ St := fun k => by have := hPm.mem_iff (a := k); rwa [unG_keys] at this
   simp only [hVS] at hDv
   have hStl : St.length ≤ 100 := Nat.le_trans (st_len (D := D) (l := kb1.Processes) hStN (fun g hg => by rw [← eD1]; exact ((hStm g).1 hg).1)) hlP
   refine CW.draws_then 10 kQ kQ kQ kQ kQ rfl rfl (HW.pp (.move (.t rfl)) (HW.pp (.nilCheck (.t rfl)) (HW.pp (.fA 13 underlying80 rfl sizeOf3 rfl) (HW.pp (.ld isAgg3 rfl ((hS.blk 0 rfl).cell (EC_work hsz1))) (HW.pp (.fA 1 underlying92 rfl sizeOf90 rfl) (HW.pp (.ld isAgg90 rfl ((hS.blk 6 rfl).celln rfl)) (HW.pp (.as (v' := vi ((St.length : Nat) : Int)) (Mk.PEv.lenM underlying90 (.t rfl) (Mk.IRng.map (hS.get 8 rfl))) (by rw [List.length_map])) (HW.pp (.add (.t rfl) (.t rfl) oQ oQ) (HW.pp (.nilCheck (.t rfl)) (HW.pp (.fA 13 underlying80 rfl sizeOf3 rfl) (HW.nil ?_)))))))))))
   intro w24 uw24
   replace hS := hS.up uw24
   refine LW.E (.store sizeOf3 (.t rfl) (.t rfl) rfl (hS.blk 0 rfl) (by rw [EC_size hsz1]; decide)) ?_
   intro w25 Nw25
   have zw25 := Nw25.size
   replace hS := hS.putB 0 rfl (by rw [EC_setw hsz1] at Nw25; exact Nw25)
   refine LW.S (CW.region (LW.pp (.fA 1 underlying92 rfl sizeOf90 rfl) (LW.pp (.ld isAgg90 rfl ((hS.blk 6 rfl).celln rfl)) (LW.pp (.as (v' := vi ((St.length : Nat) : Int)) (Mk.PEv.lenM underlying90 (.t rfl) (Mk.IRng.map (hS.get 8 rfl))) (by rw [List.length_map])) (LW.A rfl (LW.T (CW.ret (KW.ret1 rfl rfl ⟨_, rfl, ?_⟩))))))))
   have hSz := hS
   (subst eD1 ek1 e2 eT; replace hSz := hSz.pull 5 rfl; replace hSz := hSz.pull 6 rfl; replace hSz := hSz.pull 2 rfl; exact .inr ⟨bc1, St, DV, hT0, rfl, hStN, hStm, hDk, hDv, hsz1, hSz.sub (.cons_cons _ (.cons_cons _ (.cons _ (.cons _ (.cons _ (.cons _ (.cons_cons _ (.cons_cons _ (.cons_cons _ .slnil)))))))))⟩)
  skip
  replace hS := hS.stp 8 rfl (Mk.stp_next hNx)
  have hk1S := (unG_mem hNx.mem).1
  have hf1 := hNx.fresh
  have hk1o : k1.ok := okG hNx.rng.map hNx.mem
  have hW2 : (V2 ++ [k1]).Nodup ∧ ∀ k ∈ V2 ++ [k1], k ∈ St := ⟨List.nodup_append.2 ⟨hVV.1, by simp, fun a ha c hc => by simp at hc; subst hc; exact fun e => hf1 (e ▸ ha)⟩, fun k hk => (List.mem_append.1 hk).elim (hVV.2 k) (fun h => by cases List.mem_singleton.1 h; exact hk1S)⟩
  have hWl := hW2.1.length_le_of_subset hW2.2
  rw [List.length_append, List.length_singleton] at hWl
  obtain ⟨j, e1, hj1, hg1⟩ := de_find hDk ((hStm k1).1 hk1S).1
  subst hg1
  refine LW.pp (.extract (.t rfl) rfl) (LW.S (CW.cond_true (.t rfl) (CW.skip (KW.then (CW.block (CW.S (LW.rr (.entry (.t rfl) hNx.entry) rfl ?_)))))))
  rintro _ wE ⟨rfl, hwE⟩
  rw [hwE]
  refine LW.pp (.extract (.t rfl) rfl) (LW.rr (.allocA zeroValue96) rfl ?_)
  rintro _ w26 ⟨B16, rfl, MB16⟩
  refine LW.E (.storeA sizeOf96 rfl (.t rfl) (.t rfl) (Grp.one _) MB16.blk rfl) ?_
  intro w27 LB16
  have NB16 := MB16.set LB16
  replace hS := hS.addB NB16
  refine LW.T ?_
  obtain ⟨wq, ewq⟩ : ∃ W, W = w27 := ⟨_, rfl⟩
  refine CW.draws_then 16 kQ kQ kQ kQ kQ rfl rfl ?_
  have hSq := hS
  refine HW.pp (.move (.t rfl)) (HW.pp (.nilCheck (.t rfl)) (HW.pp (.fA 12 underlying80 rfl sizeOf78 rfl) (HW.pp (.ld isAgg78 rfl ((hS.blk 0 rfl).cell (EC_dec hsz1))) (HW.pp (.la isAgg96 sizeOf96 rfl ((hS.blk 9 rfl).agg)) (HW.pp (.move (.t rfl)) (HW.pp (.nilCheck (.t rfl)) (HW.pp (.fA 1 underlying80 rfl sizeOf32 rfl) (HW.pp (.loadA isAgg32 sizeOf32 (hsz1) (.t rfl) (EC_known (hS.blk 0 rfl))) (HW.pp (.fA 0 underlying96 rfl sizeOf3 rfl) (HW.pp (.ld isAgg3 rfl ((hS.blk 9 rfl).celln rfl)) (HW.pp (.fA 1 underlying96 rfl sizeOf3 rfl) (HW.pp (.ld isAgg3 rfl ((hS.blk 9 rfl).celln rfl)) (HW.pp (.fA 2 underlying96 rfl sizeOf3 rfl) (HW.pp (.ld isAgg3 rfl ((hS.blk 9 rfl).celln rfl)) (HW.cq (p := fun v W => ∃ L : List DP, L.map DP.dec = desF kb1 e1.g.t e1.g.c e1.g.r ∧ (aDs ⟨e1.g, v, L⟩).holds W ∧ ∀ i, (aDs ⟨e1.g, v, L⟩).foot i → wq.heap.size ≤ i) (fun v W W2 h u => let ⟨L, h1, h2, h3⟩ := h; ⟨L, h1, (aDs _).keep _ _ h2 (fun _ _ hl => u.block hl) u.size, h3⟩) (fun a w _ ha => enter_call0 (.cons (.t rfl) (.cons (.t rfl) (.cons (.t rfl) (.cons (.t rfl) .nil)))) (en16) a ha) rfl rfl (fun w hu => (Decisions_any bc1 kb1 e1.g.t e1.g.c e1.g.r w (BaseC.up (hS.get 5 rfl) hu) oQ oQ oQ oQ).mono fun r w2 h => by obtain ⟨v, L, rfl, h1, h2⟩ := h; exact ⟨h2.upd, L, h1, aDs_of h2, fun i hi => by rw [ewq]; exact Nat.le_trans hu.size (aDs_low h2 i hi)⟩) (HW.nil ?_))))))))))))))))
  intro w28 uw28
  replace hS := hS.up uw28
  refine LW.open (d := 125) rfl fun v125 hp125 => ?_
  obtain ⟨L125, hL1, hL2, hL3⟩ := hp125
  replace hS := hSq.stp 2 rfl (aDD_set (hSq.get 2 rfl) hj1 uw28 hL2 (fun i hi => by rw [← ewq]; exact hL3 i hi))
  have hDn : (DV.map (·.g)).Nodup := by rw [hDk]; exact hD1n
  refine LW.E (Mk.SEv.mapUpdate (Q := grpK) underlying78 grpLaw hk1o (.t rfl) (.t rfl) (.t rfl) (hS.get 7 rfl)) ?_
  rintro w29 ⟨Mu, Ku, zu⟩
  rw [mset_setD hj1 hDn v125 L125] at Mu
  replace hS := hS.stp 7 rfl (Mk.stp_set Mu Ku)
  refine LW.nil (KW.inBlock (KW.round ?_))
  exact ⟨(V2 ++ [e1.g], DV.set j ⟨e1.g, v125, L125⟩), ⟨hW2, (de_keys hj1).trans hDk, de_set hDv hj1 hDn hL1, hS.take 9⟩, ⟨rfl, rfl, rfl, rfl, trivial⟩, by show St.length - (V2 ++ [e1.g]).length < St.length - V2.length; rw [List.length_append, List.length_singleton]; omega⟩
 skip
 have zw20 := hNx.size
 replace hS := hS.stp 4 rfl (Ms.stp_next hNx)
 have hk0T := unK_mem hNx.mem
 have hf0 := hNx.fresh
 have hV2 : (V ++ [k0]).Nodup ∧ ∀ k ∈ V ++ [k0], k ∈ T := ⟨List.nodup_append.2 ⟨hV.1, by simp, fun a ha c hc => by simp at hc; subst hc; exact fun e => hf0 (e ▸ ha)⟩, fun k hk => (List.mem_append.1 hk).elim (hV.2 k) (fun h => by cases List.mem_singleton.1 h; exact hk0T)⟩
 have hVl := hV2.1.length_le_of_subset hV2.2
 rw [List.length_append, List.length_singleton] at hVl
 refine LW.pp (.extract (.t rfl) rfl) (LW.S (CW.cond_true (.t rfl) (CW.skip (KW.then (CW.block (CW.S (LW.rr (.entry (.t rfl) hNx.entry) rfl ?_)))))))
 rintro _ wE ⟨rfl, hwE⟩
 rw [hwE]
 refine LW.pp (.extract (.t rfl) rfl) (LW.A rfl (LW.S (CW.vars 13 [⟨9, 11, 2, 11, 70⟩, ⟨10, 12, 8, 12, 76⟩] (Fact.cells zeroF) [.eq (.map (some b5)), .eq (Ms.vs k0), .eq (.agg (Fact.cells (fgz (bestL all 100000) k0))), .eq (.pointer (some ⟨E, 0, none⟩)), .eq (.pointer (some ⟨E, 0, none⟩)), .eq (.pointer (some ⟨E, 0, none⟩)), .eq (.map (some bf)), .eq (Ms.vs k0), .eq (.agg (Fact.cells (fgz (bestL al2 100000) k0))), .pred fun v _ => ∃ B, v = .pointer (some ⟨B, 0, none⟩), .pred fun v _ => ∃ B, v = .pointer (some ⟨B, 0, none⟩), .eq undef, .eq undef] [11, 12] zeroValue24 sizeOf24 kQ rfl kQ kQ kQ kQ kQ kQ kQ kQ cQ kQ kQ ?_ ?_ ⟨PhT.eq _ _, PhT.eq _ _, PhT.eq _ _, PhT.eq _ _, PhT.eq _ _, PhT.eq _ _, PhT.eq _ _, PhT.eq _ _, PhT.eq _ _, PhT.pred fun _ _ _ h _ => h, PhT.pred fun _ _ _ h _ => h, PhT.eq _ _, PhT.eq _ _, trivial⟩ ?_ ?_ ?_ ?_ ?_)))
 ·intro v hv; simp only [List.mem_cons, List.mem_nil_iff, or_false] at hv; rcases hv with rfl | rfl <;> exact ⟨_, _, _, rfl⟩
 ·intro v hv; simp only [List.mem_cons, List.mem_nil_iff, or_false] at hv; rcases hv with rfl | rfl <;> exact ⟨_, _, _, rfl⟩
 ·intro v hv; simp only [List.mem_cons, List.mem_nil_iff, or_false] at hv; rcases hv with rfl | rfl <;> (intro o ho; cases ho; rfl)
 ·intro v hv; simp only [List.mem_cons, List.mem_nil_iff, or_false] at hv; rcases hv with rfl | rfl <;> exact fun v W h => ⟨_, h, rfl, Fact.one _⟩
 ·intro v hv; simp only [List.mem_cons, List.mem_nil_iff, or_false] at hv; rcases hv with rfl | rfl <;> exact fun B W => ⟨B, rfl⟩
 ·intro W hK0
  have hK := (Up.drew w20).keepT.trans hK0
  have hEW := Blk.keepT (hS.blk 0 rfl) (T := 24) rfl hK
  have hMW := ms_keepT (hS.get 1 rfl) hK
  have hBW := ms_keepT (hS.get 3 rfl) hK
  refine aC (.inr ⟨rfl, TU.p (.move (.t rfl)) rfl⟩) (aC (.inr ⟨rfl, TU.p (.move (.t rfl)) rfl⟩) (aC (.inr ⟨rfl, TU.p (lookupFct (.t rfl) (.t rfl) hBW) rfl⟩) (aC (.inr ⟨rfl, TU.p (.move (.t rfl)) rfl⟩) (aC (.inr ⟨rfl, TU.p (.nilCheck (.t rfl)) rfl⟩) (aC (.inr ⟨rfl, TU.p (.fA 0 underlying80 rfl sizeOf77 rfl) rfl⟩) (aC (.inr ⟨rfl, TU.p (.ld isAgg77 rfl (hEW.cell EC_facts)) rfl⟩) (aC (.inr ⟨rfl, TU.p (.move (.t rfl)) rfl⟩) (aC (.inr ⟨rfl, TU.p (lookupFct (.t rfl) (.t rfl) hMW) rfl⟩) (aC (.inl (by simp)) (aC (.inl (by simp)) (aC (.inl (by simp)) (aC (.inl (by simp)) ?_))))))))))))
  exact allL.nil
 intro wT g hU0 hbl hpw hg
 have hU := (Up.drew w20).trans hU0
 obtain ⟨B11, e11, z11, hB11⟩ := hbl ⟨9, 11, 2, 11, 70⟩ (by simp)
 obtain ⟨B12, e12, z12, hB12⟩ := hbl ⟨10, 12, 8, 12, 76⟩ (by simp)
 have e70 : g 70 = .agg (Fact.cells (fgz (bestL all 100000) k0)) := hg 2 _ 70 cQ rfl rfl
 have e76 : g 76 = .agg (Fact.cells (fgz (bestL al2 100000) k0)) := hg 8 _ 76 cQ rfl rfl
 replace e11 : g 11 = .pointer (some ⟨B11, 0, none⟩) := e11
 replace e12 : g 12 = .pointer (some ⟨B12, 0, none⟩) := e12
 have hne12 : B11 ≠ B12 := fun e => (List.pairwise_pair.1 hpw) B11 e11 (by rw [e]; exact e12)
 change LW _ _ _ _ _ _ _ _ ((11, .eq (g 11)) :: (12, .eq (g 12)) :: _) _
 rw [e11, e12]
 rw [e70] at hB11
 rw [e76] at hB12
 replace hB11 : Blk wT B11 (Fact.cells (fgz (bestL all 100000) k0)) 24 := hB11
 replace hB12 : Blk wT B12 (Fact.cells (fgz (bestL al2 100000) k0)) 24 := hB12
 have zdr : w20.drew.heap.size = w20.heap.size := rfl
 replace hS := hS.join (two_blk hU hB11 hB12 oQ oQ hne12)
 refine LW.S (CW.S (LW.pp (.la isAgg24 sizeOf24 rfl ((hS.blk 9 rfl).agg)) (LW.pp (.la isAgg24 sizeOf24 rfl ((hS.blk 10 rfl).agg)) (LW.pp (.eqlA eqGuardType24 (Tryz.eqFact _ _) (.t rfl) (.t rfl)) (LW.T (CW.cond (.t rfl) (fun h79 => ?_) (fun h79 => ?_)))))))
 ·replace h79 := dQ h79
  have h79a := h79
  refine CW.exit (KW.then_exit (KW.block_hit (KW.round ?_)))
  exact ⟨(V ++ [k0], St), ⟨hV2, st_more hStm (st_none fun g => by unfold stB; rw [h79a]; rfl), by exact hS.take 9⟩, ⟨rfl, rfl, rfl, rfl, rfl, trivial⟩, by show T.length - (V ++ [k0]).length < T.length - V.length; rw [List.length_append, List.length_singleton]; omega⟩
 replace h79 := dQ h79
 have h79b : Fact.eqb (fgz (bestL all 100000) k0) (fgz (bestL al2 100000) k0) = false := by simpa using h79
 refine CW.skip (KW.then (CW.S (LW.pp (.la isAgg24 sizeOf24 rfl ((hS.blk 9 rfl).agg)) (LW.pp (.la isAgg24 sizeOf24 rfl ((hS.blk 10 rfl).agg)) (LW.rr (.buildSlice (xs := [fgz (bestL all 100000) k0, fgz (bestL al2 100000) k0]) (enc := Fact.cells) (mk := fun f : Fact => .agg f.cells) underlying26 sizeOf24 zeroValue24 rfl cQ (fun _ => rfl) (fun _ => rfl) (.cons (.t rfl) (.cons (.t rfl) .nil)) rfl) rfl ?_)))))
 intro v82 w30 hN82
 obtain ⟨u82, B82, rfl, e82, hO82⟩ := NewSl.own hN82 (fun _ => rfl) cQ (by simp [maxLen])
 replace hS := hS.add u82 (A' := aOwn 24 19 Fact.cells (.slice (some ⟨B82, 0, none⟩) 2 2) [fgz (bestL all 100000) k0, fgz (bestL al2 100000) k0]) hO82 (fun i h => by cases h; exact Nat.le_of_eq e82.symm)
 refine LW.pp (.as (v' := vi 2) (PEv.lenS underlying26 (.t rfl)) rfl) (LW.pp (.move (.const _)) (LW.nil ?_))
 replace hS := hS.pull 7 rfl
 replace hS := hS.pull 7 rfl
 replace hS := hS.sub (.cons_cons _ (.cons_cons _ (.cons_cons _ (.cons_cons _ (.cons_cons _ (.cons_cons _ (.cons_cons _ (.cons _ (.cons _ (.cons_cons _ (.cons_cons _ (.cons_cons _ .slnil))))))))))))
 refine KW.then (CW.block (CW.loopB (σ := Nat × List Grp) (fun s w => (s.1 ≤ 2) ∧ (∀ g, g ∈ s.2 ↔ g ∈ St ∨ (g ∈ D1.map (·.g) ∧ (([fgz (bestL all 100000) k0, fgz (bestL al2 100000) k0].take s.1).any fun f => concB kb1 f g) = true)) ∧ (Wx.Sep (footL [aBlk E (EC bf bc bd (nw)) 80, Ms.aIMap bf (encM (bestL all 100000)), aBase bc kb, Mk.aIMap grpK bd ((D).map DE.kv), aDD (D)]) w0 w [aBlk E (EC bf bc1 bd (nw)) 80, Ms.aIMap bf (encM (bestL al2 100000)), aDD (D1), Ms.aIMap b5 (encM (bestL all 100000)), Ms.aIRng M24 r63 (T.map unK) (V ++ [k0]), aBase bc1 kb1, aBlk B9 #[.pointer (some ⟨E, 0, none⟩), .map (some M60)] 92, aOwn 24 19 Fact.cells (.slice (some ⟨B82, 0, none⟩) 2 2) [fgz (bestL all 100000) k0, fgz (bestL al2 100000) k0], Mk.aIMap grpK bd ((D1).map DE.kv), Mk.aIMap grpK M60 ((s.2).map unG)])) (fun s => [(84, .eq (vi (s.1 : Int)))]) ([(0, .eq _), (4, .eq _), (5, .eq _), (9, .eq _), (63, .eq _), (82, .eq _), (83, .eq _)]) (fun s => 2 - s.1) (0, St) ?_ ⟨rfl, rfl, rfl, rfl, rfl, rfl, rfl, rfl, trivial⟩ ?_))
 ·exact ⟨Nat.zero_le _, st_none fun _ => rfl, hS⟩
 rintro ⟨j, S1⟩ w31 ⟨hj2, hSi, hS⟩
 change CW _ _ _ _ _ _ _ ([(84, .eq (vi (j : Int)))] ++ _) _
 refine CW.S (LW.pp (.lss (.t rfl) (.t rfl)) (LW.S (CW.cond (.t rfl) (fun h85 => ?_) (fun h85 => ?_))))
 ·replace h85 := dQ h85
  refine CW.skip (KW.then (CW.seq (CW.block (CW.seq ?_))))
  obtain ⟨y, hy⟩ : ∃ y, [fgz (bestL all 100000) k0, fgz (bestL al2 100000) k0][j]? = some y := ⟨_, List.getElem?_eq_getElem (by show j < 2; omega)⟩
  obtain ⟨By, oy, ay, hcy⟩ := (OwnS.elsS (hS.own 7 rfl) (fun _ => rfl)) j y hy
  refine CW.region (LW.pp (.indexAddr' underlying26 sizeOf24 (j := j) (.t rfl) (.t rfl) (by show j < 2; omega) ay) (LW.pp (.la isAgg24 sizeOf24 rfl (hcy)) (LW.rr (.allocA zeroValue24) rfl ?_)))
  rintro _ w32 ⟨B14, rfl, MB14⟩
  refine LW.E (.storeA sizeOf24 rfl (.t rfl) (.t rfl) (Fact.one _) MB14.blk rfl) ?_
  intro w33 LB14
  have NB14 := MB14.set LB14
  replace hS := hS.addB NB14
  refine LW.S (CW.region (LW.pp (.fA 0 underlying24 rfl sizeOf3 rfl) (LW.pp (.ld isAgg3 rfl ((hS.blk 10 rfl).celln rfl)) (LW.K (eC (.o rfl) (en43)) rfl (byKind_any y.Kind _) ?_))))
  rintro _ w34 ⟨rfl, uw34⟩
  replace hS := hS.up uw34
  refine LW.A rfl (LW.S ?_)
  cases byK_cases y.Kind with
  | inl hk0 =>
   obtain ⟨hk1, hkc⟩ := hk0
   refine CW.region (LW.M rfl (LW.pp (.fa (neqNilF underlying93 (.t rfl) (.inl ⟨hk1, rfl⟩)) (rfl)) (LW.M rfl (LW.N (LW.N (LW.N (LW.pp (.pick_and (b := false) (.t rfl) (fun hp => absurd (show false = true from hp) cQ)) (LW.T (CW.cond_false (.t rfl) (CW.skip (KW.inBlock (KW.then (CW.region (LW.pp (.inc (.t rfl) oQ) (LW.M rfl (LW.nil (KW.round ?_)))))))))))))))))
   exact ⟨(j + 1, S1), ⟨by show j + 1 ≤ 2; omega, st_one hy hSi (st_none fun g => by exact hkc kb1 y g rfl), by exact hS.take 10⟩, ⟨rfl, rfl, rfl, rfl, rfl, rfl, rfl, rfl, trivial⟩, by show 2 - (j + 1) < 2 - j; omega⟩
  | inr hk0 =>
   obtain ⟨cf, hk1, hen, hcl⟩ := hk0
   rw [hk1]
   refine CW.region (LW.M rfl (LW.pp (.tr (neqNilF underlying93 (.t rfl) (.inr ⟨_, rfl, rfl⟩)) (rfl)) (LW.M rfl (LW.Y (LW.pp (.fA 4 underlying24 rfl sizeOf4 rfl) (LW.Y (LW.pp (.ld isAgg4 rfl ((hS.blk 10 rfl).celln rfl)) (LW.Y (LW.pp (.not (.t rfl)) (LW.pp (.pick_and (.t rfl) (fun hp => (by exact .tmp rfl))) (LW.T (CW.cond (.t rfl) (fun h97 => ?_) (fun h97 => ?_)))))))))))))
   ·replace h97 := dQ h97
    have hgn : y.Gone = false := by simpa using h97
    refine CW.region (LW.M rfl (LW.pp (.la isAgg92 sizeOf92 rfl ((hS.blk 6 rfl).agg)) (LW.pp (.la isAgg24 sizeOf24 rfl ((hS.blk 10 rfl).agg)) ?_)))
    replace hS := hS.pull 8 rfl
    replace hS := hS.pull 8 rfl
    have hq_ := (show Wx.Sep _ _ _ ([_, _, _, _, _, _, _, _, _] ++ [_, _]) from hS)
    refine LW.K (enter_call (.t rfl) (.cons (.t rfl) (.cons (.t rfl) .nil)) (hen)) rfl (hcl y E bf bd M60 bc1 nw _ S1 _ (hS.blk 0 rfl) hsz1 (hq_.dis ⟨_, List.mem_cons_self, rfl⟩) hq_.right.self kb1 (hS.get 5 rfl) oQ rfl hgn) ?_
    rintro _ w35 ⟨S2, rfl, uw35, hS2m⟩
    replace hS := hq_.frame uw35
    simp only [kv_keys] at hS2m
    refine LW.nil (KW.inBlock (KW.then (CW.region (LW.pp (.inc (.t rfl) oQ) (LW.M rfl (LW.nil (KW.round ?_)))))))
    exact ⟨(j + 1, S2), ⟨by show j + 1 ≤ 2; omega, st_one hy hSi hS2m, by exact hS.sub (.cons_cons _ (.cons_cons _ (.cons_cons _ (.cons_cons _ (.cons_cons _ (.cons_cons _ (.cons_cons _ (.cons_cons _ (.cons _ (.cons_cons _ (.cons_cons _ .slnil)))))))))))⟩, ⟨rfl, rfl, rfl, rfl, rfl, rfl, rfl, rfl, trivial⟩, by show 2 - (j + 1) < 2 - j; omega⟩
   replace h97 := dQ h97
   have hgn : y.Gone = true := by simpa using h97
   refine CW.skip (KW.inBlock (KW.then (CW.region (LW.pp (.inc (.t rfl) oQ) (LW.M rfl (LW.nil (KW.round ?_)))))))
   exact ⟨(j + 1, S1), ⟨by show j + 1 ≤ 2; omega, st_one hy hSi (st_none fun g => by exact conc_gone hgn g), by exact hS.take 10⟩, ⟨rfl, rfl, rfl, rfl, rfl, rfl, rfl, rfl, trivial⟩, by show 2 - (j + 1) < 2 - j; omega⟩
 replace h85 := dQ h85
 have hj2e : j = 2 := by omega
 subst hj2e
 have hSi2 := hSi
 refine CW.exit (KW.then_exit (KW.then_exit (KW.block_hit (KW.inBlock (KW.round ?_)))))
 exact ⟨(V ++ [k0], S1), ⟨hV2, st_more hStm (st_two hSi2 h79b), by exact hS.sub (.cons_cons _ (.cons_cons _ (.cons_cons _ (.cons_cons _ (.cons_cons _ (.cons_cons _ (.cons_cons _ (.cons _ (.cons_cons _ (.cons_cons _ .slnil))))))))))⟩, ⟨rfl, rfl, rfl, rfl, rfl, trivial⟩, by show T.length - (V ++ [k0]).length < T.length - V.length; rw [List.length_append, List.length_singleton]; omega⟩
end Go.Proofs.YtbbpkdlehlamlaaGreatDoor
end
section
namespace Go.Wx
theorem eqb_eq {f g : Fact} (h : Fact.eqb f g = true) : f = g := by
 obtain ⟨h1, h2⟩ := eqb_get h
 simp only [Fact.eqb, Bool.and_eq_true, beq_iff_eq] at h
 obtain ⟨a0, _, a2, a3, a4, _⟩ := h
 exact fact_ext a0 a2 a3 a4 (text_inj h2) h1
theorem eqb_iff {f g : Fact} : Fact.eqb f g = true ↔ f = g := ⟨eqb_eq, fun e => by rw [e]; exact eqb_refl g⟩
theorem proc_find {l : List Fact} {d : Int} {x : Fact} (h : x ∈ (ofB l d).Processes) : procB (ofB l d) x.ID = some x := by
 unfold procB
 cases e : (ofB l d).Processes.find? (fun f => decide (f.ID = x.ID)) with
 | none =>
   have := List.find?_eq_none.1 e x h
   simp at this
 | some y =>
   have h2 := List.find?_some e
   have h2 : y.ID = x.ID := of_decide_eq_true h2
   have hy := (lst_mem (j := 0) cQ).1 (show y ∈ lstOf (ofB l d) 0 from List.mem_of_find?_eq_some e)
   have hx := (lst_mem (j := 0) cQ).1 (show x ∈ lstOf (ofB l d) 0 from h)
   rw [eff_key hy.1 hx.1 (key_of_ord (k := 1) (eff_valid hy.1) (eff_valid hx.1) hy.2.2 hx.2.2 (by show (y.ID, (0 : Int)) = (x.ID, 0); rw [h2]))]
theorem key_uniq {m : FMap} (hn : (m.map (·.1)).Nodup) {p q : List UInt8 × Fact} (hp : p ∈ m) (hq : q ∈ m) (e : p.1 = q.1) : p = q := by
 obtain ⟨i, hi⟩ := List.getElem?_of_mem hp
 obtain ⟨j, hj⟩ := List.getElem?_of_mem hq
 have h1 : (m.map (·.1))[i]? = some p.1 := by rw [List.getElem?_map, hi]; rfl
 have h2 : (m.map (·.1))[j]? = some q.1 := by rw [List.getElem?_map, hj]; rfl
 have hil := (gQ.1 h1).1
 have : i = j := (List.getElem?_inj hil hn).1 (h1.trans ((congrArg some e).trans h2.symm))
 subst this
 rw [hi] at hj
 exact Option.some.inj hj
theorem fget_set (m : FMap) (k : List UInt8) (f : Fact) (k' : List UInt8) : fget (fset m k f) k' = if k' = k then some f else fget m k' := by
 have key : ∀ m : FMap, (m.map fun p => if p.1 = k then (k, f) else p).find? (fun p => p.1 == k') = if k' = k then (if k ∈ m.map (·.1) then some (k, f) else none) else m.find? fun p => p.1 == k' := by
   intro m
   induction m with
   | nil => simp
   | cons p m ih =>
     rw [List.map_cons, List.find?_cons, List.find?_cons, ih]
     by_cases h1 : k' = k
     · subst h1
       by_cases h2 : p.1 = k'
       · simp [h2]
       have h5 : (p.1 == k') = false := by simpa using h2
       simp only [if_neg h2, h5]
       have h6 : ¬ k' = p.1 := fun e => h2 e.symm
       simp only [List.map_cons, List.mem_cons, h6, false_or, if_true]
     by_cases h2 : p.1 = k
     · have h3 : (k == k') = false := by simpa using fun e => h1 (Eq.symm e)
       have h4 : (p.1 == k') = false := by rw [h2]; exact h3
       simp [h1, h2, h3]
     simp [h1, h2]
 unfold fget fset
 by_cases hk : k ∈ m.map (·.1)
 · rw [if_pos hk, key m]
   split
   · rfl
   rfl
 rw [if_neg hk, List.find?_append]
 by_cases h1 : k' = k
 · subst h1
   have : (m.find? fun p => p.1 == k') = none := List.find?_eq_none.2 fun p hp e => hk (List.mem_map.2 ⟨p, hp, by simpa using e⟩)
   rw [this]; simp
 have h3 : (k == k') = false := by simpa using fun e => h1 (Eq.symm e)
 rw [if_neg h1]
 simp [h3]
def inv (a : Option Fact) : Prop := ∀ x, a = some x → x.Gone = true
def sameV (a b : Option Fact) : Prop := a = b ∨ (inv a ∧ inv b)
theorem sameV.trans {a b c : Option Fact} (h : sameV a b) (k : sameV b c) : sameV a c := by
 rcases h with rfl | ⟨h1, h2⟩
 · exact k
 rcases k with rfl | ⟨_, k2⟩
 · exact .inr ⟨h1, h2⟩
 exact .inr ⟨h1, k2⟩
theorem step_same {m : FMap} {f : Fact} {k : List UInt8} (h : chgB m f = false ∨ k ≠ keyB f) : sameV (fget m k) (fget (bestStep 100000 m f) k) := by
 by_cases hk0 : keyB f = []
 · rw [(put_empty (m := m) hk0).2]; exact .inl rfl
 have hset : ∀ {m' : FMap}, bestStep 100000 m f = m' → m' = fset m (keyB f) f → (chgB m f = false → inv (fget m (keyB f)) ∧ f.Gone = true) → sameV (fget m k) (fget m' k) := fun {m'} e1 e2 h2 => by
   rw [e2, fget_set]
   by_cases e : k = keyB f
   · rw [if_pos e, e]
     obtain ⟨h3, h4⟩ := h2 (h.resolve_right fun h => h e)
     exact .inr ⟨h3, fun x hx => by cases hx; exact h4⟩
   rw [if_neg e]; exact .inl rfl
 cases hg : fget m (keyB f) with
 | none =>
   obtain ⟨h1, h2⟩ := put_new hk0 hg
   refine hset rfl h2 fun hc => ⟨fun x hx => (by rw [hg] at hx; cases hx), ?_⟩
   rw [h1] at hc; simpa using hc
 | some old =>
   cases hp : prevB f old with
   | false => rw [(put_old hk0 hg hp).2]; exact .inl rfl
   | true =>
     obtain ⟨h1, h2⟩ := put_over hk0 hg hp
     refine hset rfl h2 fun hc => ?_
     rw [h1, Bool.or_eq_false_iff] at hc
     exact ⟨fun x hx => by rw [hg] at hx; cases hx; simpa using hc.1, by simpa using hc.2⟩
theorem addK_mem (L : List (List UInt8)) (s v : List UInt8) : v ∈ addK L s ↔ v ∈ L ∨ v = s := by
 unfold addK
 split
 · rename_i h
   exact ⟨.inl, fun e => e.elim id fun e => e ▸ h⟩
 rw [List.mem_append, List.mem_singleton]
theorem addR_same (m : FMap) (l : List Fact) : ∀ k, k ∉ (addR m l).2 → sameV (fget m k) (fget (addR m l).1 k) := by
 have key : ∀ (l : List Fact) (s : FMap × List (List UInt8)), (∀ k, k ∉ s.2 → sameV (fget m k) (fget s.1 k)) → ∀ k, k ∉ (l.foldl addS s).2 → sameV (fget m k) (fget (l.foldl addS s).1 k) := by
   intro l
   induction l with
   | nil => exact fun _ h => h
   | cons x l ih =>
     intro s h
     refine ih (addS s x) fun k hk => ?_
     cases hc : chgB s.1 x with
     | false =>
       rw [addS_no hc] at hk ⊢
       exact (h k hk).trans (step_same (.inl hc))
     | true =>
       rw [addS_yes hc] at hk ⊢
       dsimp only at hk ⊢
       rw [addK_mem, not_or] at hk
       exact (h k hk.1).trans (step_same (.inr hk.2))
 exact key l (m, []) fun _ _ => .inl rfl
theorem conc_inv {kb : Base} {m : FMap} {k : List UInt8} (h : inv (fget m k)) (g : Grp) : concB kb (fgz m k) g = false := by
 unfold fgz
 cases hg : fget m k with
 | none => rfl
 | some x => exact conc_gone (h x hg) g
theorem st_T {all l : List Fact} {kb : Base} {g : Grp} : (∃ k ∈ (addR (bestL all 100000) l).2, stB (bestL all 100000) (bestL (all ++ l) 100000) kb k g = true) ↔ ∃ k, stB (bestL all 100000) (bestL (all ++ l) 100000) kb k g = true := by
 refine ⟨fun ⟨k, _, h⟩ => ⟨k, h⟩, fun ⟨k, h⟩ => ⟨k, ?_, h⟩⟩
 by_cases hk : k ∈ (addR (bestL all 100000) l).2
 · exact hk
 exfalso
 have := addR_same (bestL all 100000) l k hk
 rw [addR_fst] at this
 unfold stB at h
 rcases this with e | ⟨h1, h2⟩
 · have e2 : fgz (bestL all 100000) k = fgz (bestL (all ++ l) 100000) k := by unfold fgz; rw [e]
   rw [e2, eqb_refl] at h
   cases h
 rw [conc_inv h1, conc_inv h2] at h
 simp at h
theorem eff_get {l : List Fact} {d : Int} {x : Fact} : eff l d x ↔ fget (bestL l d) (keyB x) = some x := by
 have hn := best_nodup l d
 have ho := (best_inv l d).ok
 rw [← best_eff, factsM_mem ho]
 constructor
 · intro h
   cases hg : fget (bestL l d) (keyB x) with
   | none => exact absurd (by rw [encM_keys]; exact List.mem_map.2 ⟨_, h, rfl⟩) (fget_none hg)
   | some y =>
     have h1 := fget_some hg
     obtain ⟨p, hp, e⟩ := List.mem_map.1 h1
     have e1 : p.1 = keyB x := by injection e
     have hxy : p = (keyB x, x) := by
       exact key_uniq hn hp h e1
     have hy : y = x := by
       unfold fget at hg
       obtain ⟨q, hq, hqy⟩ := Option.map_eq_some_iff.1 hg
       have hq1 := List.mem_of_find?_eq_some hq
       have hq2 : (q.1 == keyB x) = true := List.find?_some (p := fun p : List UInt8 × Fact => p.1 == keyB x) hq
       have := key_uniq hn hq1 h (by simpa using hq2)
       rw [← hqy, this]
     rw [hy]
 intro h
 unfold fget at h
 obtain ⟨q, hq, hqy⟩ := Option.map_eq_some_iff.1 h
 have hq1 := List.mem_of_find?_eq_some hq
 have hq2 : (q.1 == keyB x) = true := List.find?_some (p := fun p : List UInt8 × Fact => p.1 == keyB x) hq
 have : q = (keyB x, x) := Prod.ext (by simpa using hq2) hqy
 rw [← this]; exact hq1
theorem vis_get {a b : List Fact} {d : Int} {x : Fact} (hx : eff a d x) (hg : x.Gone = false) (h : ∀ k, sameV (fget (bestL a d) k) (fget (bestL b d) k)) : eff b d x := by
 have h1 := eff_get.1 hx
 rw [eff_get]
 rcases h (keyB x) with e | ⟨h2, _⟩
 · rw [← e]; exact h1
 have := h2 x h1
 rw [hg] at this; cases this
theorem sameV.symm {a b : Option Fact} (h : sameV a b) : sameV b a := h.elim (fun e => .inl e.symm) fun ⟨h1, h2⟩ => .inr ⟨h2, h1⟩
theorem ord_inj {l : List Fact} {d : Int} {j : Nat} (hj : j < 11) : ∀ x ∈ lstOf (ofB l d) j, ∀ y ∈ lstOf (ofB l d) j, ordK ((j + 1 : Nat) : Int) x = ordK ((j + 1 : Nat) : Int) y → x = y := fun x hx y hy e => by
 have hx := (lst_mem hj).1 hx
 have hy := (lst_mem hj).1 hy
 exact eff_key hx.1 hy.1 (key_of_ord (eff_valid hx.1) (eff_valid hy.1) hx.2.2 hy.2.2 e)
theorem lst_part {a b : List Fact} {d : Int} {j : Nat} (hj : j < 11) {p q : Fact → Bool} (h : ∀ x, (x ∈ lstOf (ofB a d) j ∧ p x = true) ↔ (x ∈ lstOf (ofB b d) j ∧ q x = true)) : (lstOf (ofB a d) j).filter p = (lstOf (ofB b d) j).filter q := by
 refine sorted_eq ((lst_srt a d hj).sublist List.filter_sublist) ((lst_srt b d hj).sublist List.filter_sublist) (perm_of_mem ((lst_nodup a d hj).sublist List.filter_sublist) ((lst_nodup b d hj).sublist List.filter_sublist) fun x => by rw [List.mem_filter, List.mem_filter]; exact h x) fun x hx y hy e => ord_inj hj x (List.mem_filter.1 hx).1 y (List.mem_filter.1 hy).1 e
theorem lst_vis {a b : List Fact} {d : Int} (h : ∀ k, sameV (fget (bestL a d) k) (fget (bestL b d) k)) {j : Nat} (hj : j < 11) : lstOf (ofB a d) j = lstOf (ofB b d) j := by
 have := lst_part (a := a) (b := b) (d := d) hj (p := fun _ => true) (q := fun _ => true) fun x => by
   rw [lst_mem hj, lst_mem hj]
   exact ⟨fun ⟨⟨h1, h2, h3⟩, _⟩ => ⟨⟨vis_get h1 h2 h, h2, h3⟩, rfl⟩, fun ⟨⟨h1, h2, h3⟩, _⟩ => ⟨⟨vis_get h1 h2 fun k => (h k).symm, h2, h3⟩, rfl⟩⟩
 rwa [List.filter_eq_self.2 (fun _ _ => rfl), List.filter_eq_self.2 (fun _ _ => rfl)] at this
theorem ofB_vis {a b : List Fact} {d : Int} (h : ∀ k, sameV (fget (bestL a d) k) (fget (bestL b d) k)) : ofB a d = ofB b d := by
 have k := fun j (hj : j < 11) => lst_vis h hj
 have e : ∀ x y : Base, (∀ j, j < 11 → lstOf x j = lstOf y j) → x = y := fun x y hxy => by
   obtain ⟨x0, x1, x2, x3, x4, x5, x6, x7, x8, x9, x10⟩ := x
   obtain ⟨y0, y1, y2, y3, y4, y5, y6, y7, y8, y9, y10⟩ := y
   have g0 : x0 = y0 := hxy 0 cQ
   have g1 : x1 = y1 := hxy 1 cQ
   have g2 : x2 = y2 := hxy 2 cQ
   have g3 : x3 = y3 := hxy 3 cQ
   have g4 : x4 = y4 := hxy 4 cQ
   have g5 : x5 = y5 := hxy 5 cQ
   have g6 : x6 = y6 := hxy 6 cQ
   have g7 : x7 = y7 := hxy 7 cQ
   have g8 : x8 = y8 := hxy 8 cQ
   have g9 : x9 = y9 := hxy 9 cQ
   have g10 : x10 = y10 := hxy 10 cQ
   rw [g0, g1, g2, g3, g4, g5, g6, g7, g8, g9, g10]
 exact e _ _ k
theorem ofB_quiet {all l : List Fact} (h : (addR (bestL all 100000) l).2 = []) : ofB all 100000 = ofB (all ++ l) 100000 := ofB_vis fun k => by
 have := addR_same (bestL all 100000) l k (by rw [h]; exact fun e => by cases e)
 rwa [addR_fst] at this
theorem st_of {a b : List Fact} {kb : Base} {x : Fact} {g : Grp} (hx : eff a 100000 x) (hn : ¬ eff b 100000 x) (hc : concB kb x g = true) : stB (bestL a 100000) (bestL b 100000) kb (keyB x) g = true := by
 have e1 : fgz (bestL a 100000) (keyB x) = x := by unfold fgz; rw [eff_get.1 hx]; rfl
 have e2 : Fact.eqb x (fgz (bestL b 100000) (keyB x)) = false := by
   cases he : Fact.eqb x (fgz (bestL b 100000) (keyB x)) with
   | false => rfl
   | true =>
     exfalso
     have e := eqb_iff.1 he
     unfold fgz at e
     cases hg : fget (bestL b 100000) (keyB x) with
     | some y => rw [hg] at e; exact hn (eff_get.2 (by rw [hg, e]; rfl))
     | none =>
       rw [hg] at e
       have h1 := valid_kind (eff_valid hx)
       rw [e] at h1
       exact absurd h1.1 cQ
 unfold stB
 rw [e1, e2, hc]
 rfl
theorem eqb_comm (x y : Fact) : Fact.eqb x y = Fact.eqb y x := by rw [Bool.eq_iff_iff, eqb_iff, eqb_iff]; exact eq_comm
theorem stB_comm (m m' : FMap) (kb : Base) (k : List UInt8) (g : Grp) : stB m m' kb k g = stB m' m kb k g := by
 unfold stB
 rw [eqb_comm, Bool.or_comm]
theorem p3_gof {g : Grp} {x : Fact} : p3 g.t g.c g.r x = true ↔ gof x = g := by
 obtain ⟨t, c, r⟩ := g
 unfold p3 gof
 simp [and_assoc]
theorem part_quiet {a b : List Fact} {kb : Base} {g : Grp} (hst : ¬ ∃ k, stB (bestL a 100000) (bestL b 100000) kb k g = true) {j : Nat} (hj : j < 11) {p : Fact → Bool} (hp : ∀ x, x.Kind = ((j + 1 : Nat) : Int) → x.Gone = false → p x = true → concB kb x g = true) : (lstOf (ofB a 100000) j).filter p = (lstOf (ofB b 100000) j).filter p := by
 refine lst_part hj fun x => ?_
 rw [lst_mem hj, lst_mem hj]
 constructor
 · rintro ⟨⟨h1, h2, h3⟩, h4⟩
   refine ⟨⟨?_, h2, h3⟩, h4⟩
   by_cases hb : eff b 100000 x
   · exact hb
   exact absurd ⟨_, st_of h1 hb (hp x h3 h2 h4)⟩ hst
 rintro ⟨⟨h1, h2, h3⟩, h4⟩
 refine ⟨⟨?_, h2, h3⟩, h4⟩
 by_cases hb : eff a 100000 x
 · exact hb
 exact absurd ⟨_, by rw [stB_comm]; exact st_of h1 hb (hp x h3 h2 h4)⟩ hst
theorem conc_kind {kb : Base} {x : Fact} {g : Grp} (hg : x.Gone = false) : (x.Kind = 1 → gof x = g → concB kb x g = true) ∧ (x.Kind = 2 → mgB kb x g = true → concB kb x g = true) ∧ (x.Kind = 9 → runP g.t g.c x = true → concB kb x g = true) ∧ (x.Kind = 10 → x.Recipe = g.r → concB kb x g = true) := by
 unfold concB
 rw [hg]
 refine ⟨fun h e => ?_, fun h e => ?_, fun h e => ?_, fun h e => ?_⟩
 · rw [if_pos h, decide_eq_true e.symm]; rfl
 · rw [if_neg oQ, if_pos h, e]; rfl
 · rw [if_neg oQ, if_neg oQ, if_pos h]
   unfold runP at e
   simp only [Bool.and_eq_true, decide_eq_true_eq] at e
   rw [decide_eq_true e.1.symm, decide_eq_true e.2.symm]; rfl
 rw [if_neg oQ, if_neg oQ, if_neg oQ, if_pos h, decide_eq_true e.symm]; rfl
theorem des_quiet {a b : List Fact} {g : Grp} (hst : ¬ ∃ k, stB (bestL a 100000) (bestL b 100000) (ofB b 100000) k g = true) : desF (ofB a 100000) g.t g.c g.r = desF (ofB b 100000) g.t g.c g.r := by
 have hP : (ofB a 100000).Processes.filter (p3 g.t g.c g.r) = (ofB b 100000).Processes.filter (p3 g.t g.c g.r) := part_quiet hst (j := 0) cQ fun x hk hg hp => (conc_kind hg).1 hk (p3_gof.1 hp)
 have hR : (ofB a 100000).Resets.filter (runP g.t g.c) = (ofB b 100000).Resets.filter (runP g.t g.c) := part_quiet hst (j := 8) cQ fun x hk hg hp => (conc_kind hg).2.2.1 hk hp
 have hT : (ofB a 100000).Targets.filter (fun f => decide (f.Recipe = g.r)) = (ofB b 100000).Targets.filter (fun f => decide (f.Recipe = g.r)) := part_quiet hst (j := 9) cQ fun x hk hg hp => (conc_kind hg).2.2.2 hk (of_decide_eq_true hp)
 have hM : (ofB a 100000).Measures.filter (fun m => isP ((ofB b 100000).Processes.filter (p3 g.t g.c g.r)) m.ID) = (ofB b 100000).Measures.filter (fun m => isP ((ofB b 100000).Processes.filter (p3 g.t g.c g.r)) m.ID) := part_quiet hst (j := 1) cQ fun x hk hg hp => by
   refine (conc_kind hg).2.1 hk ?_
   unfold isP at hp
   obtain ⟨y, hy⟩ := Option.isSome_iff_exists.1 hp
   have hy1 := List.mem_of_find?_eq_some hy
   have hy2 : y.ID = x.ID := of_decide_eq_true (List.find?_some (p := fun z : Fact => decide (z.ID = x.ID)) hy)
   obtain ⟨hy3, hy4⟩ := List.mem_filter.1 hy1
   have := proc_find hy3
   rw [hy2] at this
   rw [mg_yes this, decide_eq_true (p3_gof.1 hy4).symm]
 rw [← other_des (ofB a 100000), ← other_des (ofB b 100000)]
 unfold otherB
 rw [hP, hR, hT, hM]
theorem new_marked {a b : List Fact} {p : Fact} (hp : p ∈ (ofB b 100000).Processes) (hn : ∀ q ∈ (ofB a 100000).Processes, gof q ≠ gof p) : ∃ k, stB (bestL a 100000) (bestL b 100000) (ofB b 100000) k (gof p) = true := by
 have h := (lst_mem (j := 0) cQ).1 hp
 refine ⟨keyB p, ?_⟩
 rw [stB_comm]
 refine st_of h.1 (fun ha => ?_) ((conc_kind h.2.1).1 h.2.2 rfl)
 have : p ∈ (ofB a 100000).Processes := (lst_mem (j := 0) cQ).2 ⟨ha, h.2⟩
 exact hn p this rfl
end Go.Wx
namespace Go.Proofs.YtbbpkdlehlamlaaGreatDoor
open Go.Proofs.Tryz
open Go.Wx Go.RowKit
end Go.Proofs.YtbbpkdlehlamlaaGreatDoor
end
