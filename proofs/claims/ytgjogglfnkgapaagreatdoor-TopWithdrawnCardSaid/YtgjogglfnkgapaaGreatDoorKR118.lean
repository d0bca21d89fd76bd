import Derived.Test.YtgjogglfnkgapaaGreatDoorKR117
namespace Go.Wx
theorem dN {L : List Grp} (h : L.Nodup) (g : Grp) : (Qw L g).Nodup := by
 unfold Qw
 split
 · exact h
 rename_i hg
 exact List.nodup_append.2 ⟨h, by simp, fun a ha c hc => by simp at hc; subst hc; exact fun e => hg (e ▸ ha)⟩
theorem Lv (l : List Fact) : (G9 l).Nodup := by
 have key : ∀ (l : List Fact) (L : List Grp), L.Nodup → (l.foldl (fun L p => Qw L (Ig p)) L).Nodup := by
   intro l
   induction l with
   | nil => exact fun _ h => h
   | cons x l ih => exact fun L h => ih _ (dN h _)
 exact key l [] List.nodup_nil
def Mn (all l : List Fact) : Nat := ((G9 (D5 (all ++ l) 100000).Processes).filter fun g => (Gx (Az all 100000) l).2.any fun k => Qz (Az all 100000) (Az (all ++ l) 100000) (D5 (all ++ l) 100000) k g).length
theorem Z7 {all l : List Fact} (h : (Gx (Az all 100000) l).2 = []) : Mn all l = 0 := by
 unfold Mn
 rw [h]
 simp
theorem BB {all l : List Fact} {D : List DE} {St : List Grp} (hn : St.Nodup) (h : ∀ g, g ∈ St ↔ g ∈ (O7 D (D5 (all ++ l) 100000).Processes).map (·.g) ∧ ∃ k ∈ (Gx (Az all 100000) l).2, Qz (Az all 100000) (Az (all ++ l) 100000) (D5 (all ++ l) 100000) k g = true) : St.length = Mn all l := by
 refine (H2 hn ((Lv _).sublist List.filter_sublist) fun g => ?_).length_eq
 rw [h g, List.mem_filter, List.any_eq_true, Mi, ← Mh]
structure Eng where
 E : Nat
 bf : Nat
 bd : Nat
 bc : Array Go.Value
 n : Int
 all : List Fact
 D : List DE
def Eng.kb (z : Eng) : Base := D5 z.all 100000
structure Eng.Ok (z : Eng) (c : Nat) : Prop where
 hbc : z.bc.size = 11
 len : z.all.length ≤ 100
 wk : 0 ≤ z.n ∧ z.n ≤ 100 * c
 nd : (z.D.map (·.g)).Nodup
 keys : ∀ g, g ∈ z.D.map (·.g) ↔ ∃ p ∈ z.kb.Processes, Ig p = g
 dks : ∀ e ∈ z.D, dk z.kb e
theorem BC {all l : List Fact} (h : (all ++ l).length ≤ 100) : Mn all l ≤ 100 := by
 unfold Mn
 refine Nat.le_trans (List.length_filter_le _ _) ?_
 have h1 := (Lv (D5 (all ++ l) 100000).Processes).length_le_of_subset (l₂ := (D5 (all ++ l) 100000).Processes.map Ig) fun g hg => by
   obtain ⟨p, hp, e⟩ := (Mh _ g).1 hg
   exact List.mem_map.2 ⟨p, hp, e⟩
 rw [List.length_map] at h1
 have h2 : (D5 (all ++ l) 100000).Processes.length ≤ 100 := K5 h 100000 0
 omega
theorem rA {l : List Fact} {D : List DE} {e : DE} (h : e ∈ O6 D l) : e ∈ D ∨ (e = AQ e.g ∧ e.g ∉ D.map (·.g)) := by
 have key : ∀ (l : List Fact) (D' : List DE), (∀ e ∈ D', e ∈ D ∨ (e = AQ e.g ∧ e.g ∉ D.map (·.g))) → (∀ g, g ∈ D.map (·.g) → g ∈ D'.map (·.g)) → ∀ e ∈ O6 D' l, e ∈ D ∨ (e = AQ e.g ∧ e.g ∉ D.map (·.g)) := by
   intro l
   induction l with
   | nil => exact fun _ h _ => h
   | cons x l ih =>
     intro D' h1 h2
     refine ih (Nr D' (Ig x)) (fun e he => ?_) fun g hg => (Wa D' (Ig x) g).2 (.inl (h2 g hg))
     unfold Nr at he
     split at he
     · exact h1 e he
     rename_i hx
     rcases List.mem_append.1 he with he | he
     · exact h1 e he
     rw [List.mem_singleton] at he
     subst he
     exact .inr ⟨rfl, fun hg => hx (h2 _ hg)⟩
 exact key l D (fun e he => .inl he) (fun _ h => h) e h
theorem vT {z : Eng} {c : Nat} (h : z.Ok c) {l : List Fact} {St : List Grp} {D2 : List DE} (hSt : ∀ g, g ∈ St ↔ g ∈ (O7 z.D (D5 (z.all ++ l) 100000).Processes).map (·.g) ∧ ∃ k ∈ (Gx (Az z.all 100000) l).2, Qz (Az z.all 100000) (Az (z.all ++ l) 100000) (D5 (z.all ++ l) 100000) k g = true)
   (hD : ∀ e ∈ D2, (e.g ∈ St → dk (D5 (z.all ++ l) 100000) e) ∧ (e.g ∉ St → e ∈ O7 z.D (D5 (z.all ++ l) 100000).Processes)) : ∀ e ∈ D2, dk (D5 (z.all ++ l) 100000) e := fun e he => by
 obtain ⟨h1, h2⟩ := hD e he
 by_cases hs : e.g ∈ St
 · exact h1 hs
 have h3 := h2 hs
 have hq : ¬ ∃ k, Qz (Az z.all 100000) (Az (z.all ++ l) 100000) (D5 (z.all ++ l) 100000) k e.g = true := fun hk => hs ((hSt e.g).2 ⟨List.mem_map.2 ⟨e, h3, rfl⟩, JX.2 hk⟩)
 rcases rA (List.mem_filter.1 h3).1 with h4 | ⟨_, h5⟩
 · have := h.dks e h4
   unfold dk at this ⊢
   rw [this]
   exact lJ hq
 exfalso
 obtain ⟨p, hp, ep⟩ := (Mi _ z.D e.g).1 (List.mem_map.2 ⟨e, h3, rfl⟩)
 have := dE (a := z.all) hp fun q hq2 eq => h5 ((h.keys e.g).2 ⟨q, hq2, eq.trans ep⟩)
 rw [ep] at this
 exact hq this
theorem Ty (d : Int) : D5 [] d = ⟨[], [], [], [], [], [], [], [], [], [], []⟩ := by
 have k : ∀ j, j < 11 → Ef (D5 [] d) j = [] := fun j hj => List.eq_nil_iff_forall_not_mem.2 fun x hx => by
   have := ((Dc hj).1 hx).1.1
   cases this
 have e : ∀ x : Base, (∀ j, j < 11 → Ef x j = []) → x = ⟨[], [], [], [], [], [], [], [], [], [], []⟩ := fun x hx => by
   obtain ⟨x0, x1, x2, x3, x4, x5, x6, x7, x8, x9, x10⟩ := x
   have g0 : x0 = [] := hx 0 cQ
   have g1 : x1 = [] := hx 1 cQ
   have g2 : x2 = [] := hx 2 cQ
   have g3 : x3 = [] := hx 3 cQ
   have g4 : x4 = [] := hx 4 cQ
   have g5 : x5 = [] := hx 5 cQ
   have g6 : x6 = [] := hx 6 cQ
   have g7 : x7 = [] := hx 7 cQ
   have g8 : x8 = [] := hx 8 cQ
   have g9 : x9 = [] := hx 9 cQ
   have g10 : x10 = [] := hx 10 cQ
   rw [g0, g1, g2, g3, g4, g5, g6, g7, g8, g9, g10]
 exact e _ k
def rB : Array Go.Value := #[.slice none 0 0, .slice none 0 0, .slice none 0 0, .slice none 0 0, .slice none 0 0, .slice none 0 0, .slice none 0 0, .slice none 0 0, .slice none 0 0, .slice none 0 0, .slice none 0 0]
theorem vU (w : World) (d : Int) : BaseC w rB (D5 [] d) := by
 rw [Ty]
 exact ⟨_, _, _, _, _, _, _, _, _, _, _, rfl, pS _, pS _, pS _, pS _, pS _, pS _, pS _, pS _, pS _, pS _, pS _⟩
theorem vV (d : Int) : ∀ i, ¬ gX rB (D5 [] d) i := by
 rintro i ⟨j, v, _, _, h⟩
 rw [Ty] at h
 by_cases hj : j < 11
 · rcases K3 hj with rfl | rfl | rfl | rfl | rfl | rfl | rfl | rfl | rfl | rfl | rfl <;> exact h rfl
 exact h (Pt _ hj)
end Go.Wx
namespace Go.Proofs.YtgjogglfnkgapaaGreatDoor
open Go.Proofs.Tryz
open Go.Wx Go.RowKit
theorem BD {α : Type _} (E M B D F : α) : [E, M, B, D, F].Perm [M, D, E, B, F] := by
 refine ((List.Perm.swap M E _).trans (List.Perm.cons M ?_))
 refine (((List.Perm.swap D B _).cons E).trans (List.Perm.swap D E _))
def _root_.Go.Wx.Eng.As (z : Eng) : List Asr := [Cc z.E (EC z.bf z.bc z.bd z.n) 107, Ms.A4 z.bf (Ev (Az z.all 100000)), Gi z.bc z.kb, Mk.A4 Ca z.bd (z.D.map DE.kv), K7 z.D]
theorem Tz (z : Eng) (c : Nat) (ad : Option Addr) (cp : Nat) (l : List Fact) (w : World) (hz : z.Ok c) (hc : c ≤ 900) (hl : (z.all ++ l).length ≤ 100) (hEl : Els w ad 19 Fact.cells l) (hLb : l ≠ [] → ∀ B o, ad = some ⟨B, o, none⟩ → ¬ Cu z.As B) (hS0 : Wx.Sep (Cu z.As) w w z.As) : Ret prog 10 #[.pointer (some ⟨z.E, 0, none⟩), .slice ad l.length cp] w fun r w' => ∃ z' : Eng, r = vi ((Mn z.all l : Nat) : Int) ∧ z'.E = z.E ∧ z'.all = z.all ++ l ∧ z'.n = z.n + ((Mn z.all l : Nat) : Int) ∧ z'.Ok (c + 1) ∧ Wx.Sep (Cu z.As) w w' z'.As := by
 obtain ⟨E, bf, bd, bc, nw, all, D⟩ := z
 have hwk := hz.wk
 have hcl := BC hl
 refine (qZ E bf bd bc nw all (D5 all 100000) D ad cp l w hz.hbc ⟨hwk.1, by have := hwk.2; dsimp only at this; omega⟩ hl hz.nd hEl hLb hS0).mono fun r w' h => ?_
 dsimp only at hwk hcl hl ⊢
 rcases h with ⟨hT, rfl, hS⟩ | ⟨bc1, St, D2, hT, rfl, hn, hSt, hk, hD, hs, hS⟩
 · have e := lI hT
   refine ⟨⟨E, bf, bd, bc, nw, all ++ l, D⟩, by rw [Z7 hT]; rfl, rfl, rfl, by rw [Z7 hT]; simp, ⟨hz.hbc, hl, ⟨hwk.1, by dsimp only; omega⟩, hz.nd, fun g => ?_, fun e1 he => ?_⟩, ?_⟩
   · have := hz.keys g
     unfold Eng.kb at this ⊢
     rw [← e]; exact this
   · have := hz.dks e1 he
     unfold Eng.kb at this ⊢
     rw [← e]; exact this
   unfold Eng.As Eng.kb
   rw [← e]; exact hS
 have e := BB hn hSt
 refine ⟨⟨E, bf, bd, bc1, nw + ((St.length : Nat) : Int), all ++ l, D2⟩, by rw [e], rfl, rfl, by rw [e], ⟨hs, hl, ⟨by dsimp only; omega, by dsimp only; omega⟩, ?_, fun g => ?_, vT hz hSt hD⟩, hS⟩
 · show (D2.map (·.g)).Nodup
   rw [hk]; exact Tq _ hz.nd
 show g ∈ D2.map (·.g) ↔ _
 rw [hk]; exact Mi _ D g
theorem Gb {z : Eng} {c : Nat} (h : z.Ok c) : z.kb.Processes.length ≤ 100 ∧ z.kb.Measures.length ≤ 100 ∧ z.kb.Resets.length ≤ 100 ∧ z.kb.Targets.length ≤ 100 := by
 have := K5 (l := z.all) (n := 100) h.len 100000
 exact ⟨this 0, this 1, this 8, this 9⟩
theorem rC (w : World) : Ret prog 9 #[] w fun r w' => ∃ z : Eng, r = .pointer (some ⟨z.E, 0, none⟩) ∧ z.all = [] ∧ z.n = 0 ∧ z.Ok 0 ∧ Wx.Sep no w w' z.As := by
 obtain ⟨w0, rfl, hS⟩ := W0 w
 refine cT 5 func9 rfl (Af (Ay (Ao (Aa (LW.r Ms.REv.makeMap rfl rfl rfl rfl ?_)))))
 rintro _ w1 ⟨M1, rfl, hMM1, uw1, eM1, zM1⟩
 replace hS := hS.add uw1 (A' := Ms.A4 M1 (Ev (Az [] 100000))) hMM1 (fun i (e : i = M1) => by omega)
 refine Al (Mk.REv.makeMap (Q := Ca)) rfl ?_
 rintro _ w2 ⟨M2, rfl, hMM2, uw2, eM2, zM2⟩
 replace hS := hS.add uw2 (A' := Mk.A4 Ca M2 (([] : List DE).map DE.kv)) hMM2 (fun i (e : i = M2) => by omega)
 refine I (.build (cs := (EC M1 rB M2 0)) underlying107 zeroValue107 Ry (.ct rfl (.cu rfl)) rfl) (Al (.bA rfl) rfl ?_)
 rintro _ w3 ⟨B4, rfl, NB4⟩
 replace hS := hS.Bn NB4
 refine LW.A rfl (Ai (Ak (KW.q ?_)))
 refine ⟨⟨B4, M1, M2, rB, 0, [], []⟩, rfl, rfl, rfl, ⟨rfl, Nat.zero_le _, ⟨Int.le_refl _, by show (0 : Int) ≤ 100 * ((0 : Nat) : Int); omega⟩, List.nodup_nil, fun g => ⟨fun h => (by cases h), fun ⟨p, hp, _⟩ => ?_⟩, fun _ h => (by cases h)⟩, ?_⟩
 ·unfold Eng.kb at hp; rw [Ty] at hp; cases hp
 replace hS := hS.add (Up.refl _) (A' := Gi rB (D5 [] 100000)) (vU _ _) (fun i h => absurd h (vV _ i))
 replace hS := hS.add (Up.refl _) (A' := K7 []) ⟨fun _ h => (by cases h), List.Pairwise.nil⟩ (fun i h => by obtain ⟨A_, hA_, _⟩ := h; cases hA_)
 exact hS.perm (List.Perm.symm (BD _ _ _ _ _))
end Go.Proofs.YtgjogglfnkgapaaGreatDoor
