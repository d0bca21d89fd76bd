import Derived.Test.YtbbpkdlehlamlaaGreatDoorKR417
section
namespace Go.Wx
theorem addG_nodup {L : List Grp} (h : L.Nodup) (g : Grp) : (addG L g).Nodup := by
 unfold addG
 split
 · exact h
 rename_i hg
 exact List.nodup_append.2 ⟨h, by simp, fun a ha c hc => by simp at hc; subst hc; exact fun e => hg (e ▸ ha)⟩
theorem grpsL_nodup (l : List Fact) : (grpsL l).Nodup := by
 have key : ∀ (l : List Fact) (L : List Grp), L.Nodup → (l.foldl (fun L p => addG L (gof p)) L).Nodup := by
   intro l
   induction l with
   | nil => exact fun _ h => h
   | cons x l ih => exact fun L h => ih _ (addG_nodup h _)
 exact key l [] List.nodup_nil
def cntN (all l : List Fact) : Nat := ((grpsL (ofB (all ++ l) 100000).Processes).filter fun g => (addR (bestL all 100000) l).2.any fun k => stB (bestL all 100000) (bestL (all ++ l) 100000) (ofB (all ++ l) 100000) k g).length
theorem cnt_zero {all l : List Fact} (h : (addR (bestL all 100000) l).2 = []) : cntN all l = 0 := by
 unfold cntN
 rw [h]
 simp
theorem cnt_of {all l : List Fact} {D : List DE} {St : List Grp} (hn : St.Nodup) (h : ∀ g, g ∈ St ↔ g ∈ (regD D (ofB (all ++ l) 100000).Processes).map (·.g) ∧ ∃ k ∈ (addR (bestL all 100000) l).2, stB (bestL all 100000) (bestL (all ++ l) 100000) (ofB (all ++ l) 100000) k g = true) : St.length = cntN all l := by
 refine (perm_of_mem hn ((grpsL_nodup _).sublist List.filter_sublist) fun g => ?_).length_eq
 rw [h g, List.mem_filter, List.any_eq_true, regD_keys, ← grpsL_mem]
structure Eng where
 E : Nat
 bf : Nat
 bd : Nat
 bc : Array Go.Value
 n : Int
 all : List Fact
 D : List DE
def Eng.kb (z : Eng) : Base := ofB z.all 100000
structure Eng.Ok (z : Eng) (c : Nat) : Prop where
 hbc : z.bc.size = 11
 len : z.all.length ≤ 100
 wk : 0 ≤ z.n ∧ z.n ≤ 100 * c
 nd : (z.D.map (·.g)).Nodup
 keys : ∀ g, g ∈ z.D.map (·.g) ↔ ∃ p ∈ z.kb.Processes, gof p = g
 dks : ∀ e ∈ z.D, dk z.kb e
theorem cnt_le {all l : List Fact} (h : (all ++ l).length ≤ 100) : cntN all l ≤ 100 := by
 unfold cntN
 refine Nat.le_trans (List.length_filter_le _ _) ?_
 have h1 := (grpsL_nodup (ofB (all ++ l) 100000).Processes).length_le_of_subset (l₂ := (ofB (all ++ l) 100000).Processes.map gof) fun g hg => by
   obtain ⟨p, hp, e⟩ := (grpsL_mem _ g).1 hg
   exact List.mem_map.2 ⟨p, hp, e⟩
 rw [List.length_map] at h1
 have h2 : (ofB (all ++ l) 100000).Processes.length ≤ 100 := ofB_shortN h 100000 0
 omega
theorem regL_mem {l : List Fact} {D : List DE} {e : DE} (h : e ∈ regL D l) : e ∈ D ∨ (e = de0 e.g ∧ e.g ∉ D.map (·.g)) := by
 have key : ∀ (l : List Fact) (D' : List DE), (∀ e ∈ D', e ∈ D ∨ (e = de0 e.g ∧ e.g ∉ D.map (·.g))) → (∀ g, g ∈ D.map (·.g) → g ∈ D'.map (·.g)) → ∀ e ∈ regL D' l, e ∈ D ∨ (e = de0 e.g ∧ e.g ∉ D.map (·.g)) := by
   intro l
   induction l with
   | nil => exact fun _ h _ => h
   | cons x l ih =>
     intro D' h1 h2
     refine ih (addD D' (gof x)) (fun e he => ?_) fun g hg => (addD_keys D' (gof x) g).2 (.inl (h2 g hg))
     unfold addD at he
     split at he
     · exact h1 e he
     rename_i hx
     rcases List.mem_append.1 he with he | he
     · exact h1 e he
     rw [List.mem_singleton] at he
     subst he
     exact .inr ⟨rfl, fun hg => hx (h2 _ hg)⟩
 exact key l D (fun e he => .inl he) (fun _ h => h) e h
theorem Ok_next {z : Eng} {c : Nat} (h : z.Ok c) {l : List Fact} {St : List Grp} {D2 : List DE} (hSt : ∀ g, g ∈ St ↔ g ∈ (regD z.D (ofB (z.all ++ l) 100000).Processes).map (·.g) ∧ ∃ k ∈ (addR (bestL z.all 100000) l).2, stB (bestL z.all 100000) (bestL (z.all ++ l) 100000) (ofB (z.all ++ l) 100000) k g = true)
   (hD : ∀ e ∈ D2, (e.g ∈ St → dk (ofB (z.all ++ l) 100000) e) ∧ (e.g ∉ St → e ∈ regD z.D (ofB (z.all ++ l) 100000).Processes)) : ∀ e ∈ D2, dk (ofB (z.all ++ l) 100000) e := fun e he => by
 obtain ⟨h1, h2⟩ := hD e he
 by_cases hs : e.g ∈ St
 · exact h1 hs
 have h3 := h2 hs
 have hq : ¬ ∃ k, stB (bestL z.all 100000) (bestL (z.all ++ l) 100000) (ofB (z.all ++ l) 100000) k e.g = true := fun hk => hs ((hSt e.g).2 ⟨List.mem_map.2 ⟨e, h3, rfl⟩, st_T.2 hk⟩)
 rcases regL_mem (List.mem_filter.1 h3).1 with h4 | ⟨_, h5⟩
 · have := h.dks e h4
   unfold dk at this ⊢
   rw [this]
   exact des_quiet hq
 exfalso
 obtain ⟨p, hp, ep⟩ := (regD_keys _ z.D e.g).1 (List.mem_map.2 ⟨e, h3, rfl⟩)
 have := new_marked (a := z.all) hp fun q hq2 eq => h5 ((h.keys e.g).2 ⟨q, hq2, eq.trans ep⟩)
 rw [ep] at this
 exact hq this
theorem base_nil (d : Int) : ofB [] d = ⟨[], [], [], [], [], [], [], [], [], [], []⟩ := by
 have k : ∀ j, j < 11 → lstOf (ofB [] d) j = [] := fun j hj => List.eq_nil_iff_forall_not_mem.2 fun x hx => by
   have := ((lst_mem hj).1 hx).1.1
   cases this
 have e : ∀ x : Base, (∀ j, j < 11 → lstOf x j = []) → x = ⟨[], [], [], [], [], [], [], [], [], [], []⟩ := fun x hx => by
   obtain ⟨x0, x1, x2, x3, x4, x5, x6, x7, x8, x9, x10⟩ := x
   have g0 : x0 = [] := hx 0 cQ
   have g1 : x1 = [] := hx 1 cQ
   have g2 : x2 = [] := hx 2 cQ
   have g3 : x3 = [] := hx 3 cQ
   have g4 : x4 = [] := hx 4 cQ
   have g5 : x5 = [] := hx 5 cQ
   have g6 : x6 = [] := hx 6 cQ
   have g7 : x7 = [] := hx 7 cQ
   have g8 : x8 = [] := hx 8 cQ
   have g9 : x9 = [] := hx 9 cQ
   have g10 : x10 = [] := hx 10 cQ
   rw [g0, g1, g2, g3, g4, g5, g6, g7, g8, g9, g10]
 exact e _ k
def zb11 : Array Go.Value := #[.slice none 0 0, .slice none 0 0, .slice none 0 0, .slice none 0 0, .slice none 0 0, .slice none 0 0, .slice none 0 0, .slice none 0 0, .slice none 0 0, .slice none 0 0, .slice none 0 0]
theorem zb_base (w : World) (d : Int) : BaseC w zb11 (ofB [] d) := by
 rw [base_nil]
 exact ⟨_, _, _, _, _, _, _, _, _, _, _, rfl, sl0 _, sl0 _, sl0 _, sl0 _, sl0 _, sl0 _, sl0 _, sl0 _, sl0 _, sl0 _, sl0 _⟩
theorem zb_foot (d : Int) : ∀ i, ¬ footB zb11 (ofB [] d) i := by
 rintro i ⟨j, v, _, _, h⟩
 rw [base_nil] at h
 by_cases hj : j < 11
 · rcases eleven_cases hj with rfl | rfl | rfl | rfl | rfl | rfl | rfl | rfl | rfl | rfl | rfl <;> exact h rfl
 exact h (lstOf_big _ hj)
end Go.Wx
namespace Go.Proofs.YtbbpkdlehlamlaaGreatDoor
open Go.Proofs.Tryz
open Go.Wx Go.RowKit
theorem perm_e {α : Type _} (E M B D F : α) : [E, M, B, D, F].Perm [M, D, E, B, F] := by
 refine ((List.Perm.swap M E _).trans (List.Perm.cons M ?_))
 refine (((List.Perm.swap D B _).cons E).trans (List.Perm.swap D E _))
def _root_.Go.Wx.Eng.As (z : Eng) : List Asr := [aBlk z.E (EC z.bf z.bc z.bd z.n) 80, Ms.aIMap z.bf (encM (bestL z.all 100000)), aBase z.bc z.kb, Mk.aIMap grpK z.bd (z.D.map DE.kv), aDD z.D]
theorem EAdd_any (z : Eng) (c : Nat) (ad : Option Addr) (cp : Nat) (l : List Fact) (w : World) (hz : z.Ok c) (hc : c ≤ 900) (hl : (z.all ++ l).length ≤ 100) (hEl : Els w ad 19 Fact.cells l) (hLb : l ≠ [] → ∀ B o, ad = some ⟨B, o, none⟩ → ¬ footL z.As B) (hS0 : Wx.Sep (footL z.As) w w z.As) : Ret prog 13 #[.pointer (some ⟨z.E, 0, none⟩), .slice ad l.length cp] w fun r w' => ∃ z' : Eng, r = vi ((cntN z.all l : Nat) : Int) ∧ z'.E = z.E ∧ z'.all = z.all ++ l ∧ z'.n = z.n + ((cntN z.all l : Nat) : Int) ∧ z'.Ok (c + 1) ∧ Wx.Sep (footL z.As) w w' z'.As := by
 obtain ⟨E, bf, bd, bc, nw, all, D⟩ := z
 have hwk := hz.wk
 have hcl := cnt_le hl
 refine (Add_walk E bf bd bc nw all (ofB all 100000) D ad cp l w hz.hbc ⟨hwk.1, by have := hwk.2; dsimp only at this; omega⟩ hl hz.nd hEl hLb hS0).mono fun r w' h => ?_
 dsimp only at hwk hcl hl ⊢
 rcases h with ⟨hT, rfl, hS⟩ | ⟨bc1, St, D2, hT, rfl, hn, hSt, hk, hD, hs, hS⟩
 · have e := ofB_quiet hT
   refine ⟨⟨E, bf, bd, bc, nw, all ++ l, D⟩, by rw [cnt_zero hT]; rfl, rfl, rfl, by rw [cnt_zero hT]; simp, ⟨hz.hbc, hl, ⟨hwk.1, by dsimp only; omega⟩, hz.nd, fun g => ?_, fun e1 he => ?_⟩, ?_⟩
   · have := hz.keys g
     unfold Eng.kb at this ⊢
     rw [← e]; exact this
   · have := hz.dks e1 he
     unfold Eng.kb at this ⊢
     rw [← e]; exact this
   unfold Eng.As Eng.kb
   rw [← e]; exact hS
 have e := cnt_of hn hSt
 refine ⟨⟨E, bf, bd, bc1, nw + ((St.length : Nat) : Int), all ++ l, D2⟩, by rw [e], rfl, rfl, by rw [e], ⟨hs, hl, ⟨by dsimp only; omega, by dsimp only; omega⟩, ?_, fun g => ?_, Ok_next hz hSt hD⟩, hS⟩
 · show (D2.map (·.g)).Nodup
   rw [hk]; exact regD_nodup _ hz.nd
 show g ∈ D2.map (·.g) ↔ _
 rw [hk]; exact regD_keys _ D g
theorem len_ok {z : Eng} {c : Nat} (h : z.Ok c) : z.kb.Processes.length ≤ 100 ∧ z.kb.Measures.length ≤ 100 ∧ z.kb.Resets.length ≤ 100 ∧ z.kb.Targets.length ≤ 100 := by
 have := ofB_shortN (l := z.all) (n := 100) h.len 100000
 exact ⟨this 0, this 1, this 8, this 9⟩
theorem ENew_any (w : World) : Ret prog 12 #[] w fun r w' => ∃ z : Eng, r = .pointer (some ⟨z.E, 0, none⟩) ∧ z.all = [] ∧ z.n = 0 ∧ z.Ok 0 ∧ Wx.Sep no w w' z.As := by
 obtain ⟨w0, rfl⟩ : ∃ w0, w0 = w := ⟨_, rfl⟩
 have hS := Sep.start no w0
 refine cS (n := 5) (m := 9) func12 rfl rfl rfl ?_
 refine CW.S (LW.C (LW.S (CW.region ?_)))
 refine LW.r Ms.REv.makeMap rfl rfl rfl rfl ?_
 rintro _ w1 ⟨M1, rfl, hMM1, uw1, eM1, zM1⟩
 replace hS := hS.add uw1 (A' := Ms.aIMap M1 (encM (bestL [] 100000))) hMM1 (fun i (e : i = M1) => by omega)
 change Wx.Sep _ _ _ [_] at hS
 refine LW.rr (Mk.REv.makeMap (Q := grpK)) rfl ?_
 rintro _ w2 ⟨M2, rfl, hMM2, uw2, eM2, zM2⟩
 replace hS := hS.add uw2 (A' := Mk.aIMap grpK M2 (([] : List DE).map DE.kv)) hMM2 (fun i (e : i = M2) => by omega)
 change Wx.Sep _ _ _ [_, _] at hS
 refine LW.pp (.build (cs := (EC M1 zb11 M2 0)) underlying80 zeroValue80 Tryz.places80 (.cons (.t rfl) (.cons (.t rfl) .nil)) rfl) ?_
 refine LW.rr (.boxA (.t rfl)) rfl ?_
 rintro _ w3 ⟨B4, rfl, NB4⟩
 have eB4 := NB4.at_
 have zB4 := NB4.size
 replace hS := hS.addB NB4
 change Wx.Sep _ _ _ [_, _, _] at hS
 refine LW.A rfl (LW.T (CW.ret ?_))
 refine KW.ret1 rfl rfl ⟨_, rfl, ?_⟩
 refine ⟨⟨B4, M1, M2, zb11, 0, [], []⟩, rfl, rfl, rfl, ⟨rfl, Nat.zero_le _, ⟨Int.le_refl _, by show (0 : Int) ≤ 100 * ((0 : Nat) : Int); omega⟩, List.nodup_nil, fun g => ⟨fun h => (by cases h), fun ⟨p, hp, _⟩ => ?_⟩, fun _ h => (by cases h)⟩, ?_⟩
 ·unfold Eng.kb at hp; rw [base_nil] at hp; cases hp
 replace hS := hS.add (Up.refl _) (A' := aBase zb11 (ofB [] 100000)) (zb_base _ _) (fun i h => absurd h (zb_foot _ i))
 replace hS := hS.add (Up.refl _) (A' := aDD []) ⟨fun _ h => (by cases h), List.Pairwise.nil⟩ (fun i h => by obtain ⟨A_, hA_, _⟩ := h; cases hA_)
 change Wx.Sep no w0 _ [Ms.aIMap M1 (encM (bestL [] 100000)), Mk.aIMap grpK M2 (([] : List DE).map DE.kv), aBlk B4 (EC M1 zb11 M2 0) 80, aBase zb11 (ofB [] 100000), aDD []] at hS
 exact hS.perm (List.Perm.symm (perm_e _ _ _ _ _))
theorem EWork_any (E bf bd : Nat) (bc : Array Go.Value) (nw : Int) (w : World) (hbc : bc.size = 11) (hE : Blk w E (EC bf bc bd nw) 80) : Ret prog 26 #[.pointer (some ⟨E, 0, none⟩)] w fun r w' => r = vi nw ∧ Up w w' := by
 have hW := Up.refl w
 refine cS (n := 9) (m := 9) func26 rfl rfl rfl ?_
 refine CW.S (LW.C (LW.S (CW.S (LW.M rfl ?_))))
 refine LW.pp (.fa (PEv.eqlNil underlying28 (.t rfl)) (rfl)) ?_
 refine LW.T ?_
 refine CW.cond_false (.t rfl) ?_
 refine CW.skip (KW.then (CW.S (LW.M rfl ?_)))
 refine LW.pp (.nilCheck (.t rfl)) ?_
 refine LW.pp (.fA 13 underlying80 rfl sizeOf3 rfl) ?_
 refine LW.pp (.ld isAgg3 rfl (hE.cell (EC_work hbc))) ?_
 refine LW.A rfl (LW.T (CW.ret ?_))
 refine KW.ret1 rfl rfl ⟨_, rfl, ?_⟩
 exact ⟨rfl, hW⟩
end Go.Proofs.YtbbpkdlehlamlaaGreatDoor
end
