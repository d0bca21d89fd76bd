import Derived.Test.YtpofdidofjlkhaaKR19
import Derived.Shelf.SlSortCmp.Insertion
import Derived.Sort.Statements
import Derived.Lib.Small
section
namespace Go.Wx
structure Sit where
 l : Int
 r : Int
 p : Int
 u : Bool
deriving DecidableEq
def Sit.cells (s : Sit) : Array Value := #[vi s.l, vi s.r, vi s.p, .bool s.u]
theorem Sit.one (s : Sit) : s.cells.all (·.oneCell') = true := by simp [Sit.cells, Value.oneCell']
def Sit.ok (s : Sit) : Prop := inI s.l ∧ inI s.r ∧ inI s.p
def sitK : Mk.KT Sit where
 vk s := .agg s.cells
 ok s := s.ok
 inj {a b} h := by
   obtain ⟨a1, a2, a3, a4⟩ := a
   obtain ⟨b1, b2, b3, b4⟩ := b
   simp only [Sit.cells, Value.agg.injEq, Array.mk.injEq, List.cons.injEq, Value.int.injEq, Value.bool.injEq, true_and, and_true] at h
   obtain ⟨rfl, rfl, rfl, rfl⟩ := h
   rfl
def nextF (job tool : Int) (s : Sit) : List Sit :=
 if 0 < s.r then [⟨s.r, 0, -1, s.u⟩, ⟨s.l, 0, -1, s.u⟩] else if s.u = true ∧ s.l < job then [⟨s.l, job, tool, false⟩] else []
def wtF (s : Sit) : Nat := if 0 < s.r then (if s.u then 9 else 3) else if s.u then 4 else 1
theorem wt_next {job tool : Int} {s : Sit} : ((nextF job tool s).map wtF).sum < wtF s := by
 obtain ⟨l, r, p, u⟩ := s
 unfold nextF
 dsimp only
 by_cases hr : 0 < r
 · rw [if_pos hr]
   cases u <;> simp [wtF, hr]
 rw [if_neg hr]
 by_cases hu : u = true ∧ l < job
 · rw [if_pos hu, hu.1]
   simp only [List.map_cons, List.map_nil, List.sum_cons, List.sum_nil, wtF, hr, if_false, if_true]
   split <;> simp
 rw [if_neg hu]
 cases u <;> simp [wtF, hr]
inductive Cl (job tool : Int) (S : Sit → Prop) : Sit → Prop
 | base {s : Sit} (h : S s) : Cl job tool S s
 | step {s v : Sit} (h : Cl job tool S s) (hv : v ∈ nextF job tool s) : Cl job tool S v
theorem Cl.idem {job tool : Int} {S : Sit → Prop} {s : Sit} : Cl job tool (Cl job tool S) s ↔ Cl job tool S s := by
 constructor
 · intro k
   induction k with
   | base hs => exact hs
   | step _ hv ih => exact .step ih hv
 exact .base
structure Pas (job tool : Int) (S : Sit → Prop) (todo L : List Sit) : Prop where
 base : ∀ s, S s → s ∈ L
 nd : L.Nodup
 sub : ∀ s ∈ todo, s ∈ L
 clo : ∀ s ∈ L, s ∈ todo ∨ ∀ v ∈ nextF job tool s, v ∈ L
 cl : ∀ s ∈ L, Cl job tool S s
theorem Pas.start {job tool : Int} {K : List Sit} (hn : K.Nodup) {t : List Sit} (ht : ∀ s, s ∈ t ↔ s ∈ K) : Pas job tool (· ∈ K) t K :=
 ⟨fun _ h => h, hn, fun s h => (ht s).1 h, fun s h => .inl ((ht s).2 h), fun _ h => .base h⟩
theorem Pas.done {job tool : Int} {S : Sit → Prop} {L : List Sit} (h : Pas job tool S [] L) (s : Sit) : s ∈ L ↔ Cl job tool S s := by
 constructor
 · exact h.cl s
 intro k
 induction k with
 | base hs => exact h.base _ hs
 | step _ hv ih => exact (h.clo _ ih).elim (fun e => by cases e) (fun e => e _ hv)
def addS (tL : List Sit × List Sit) (v : Sit) : List Sit × List Sit := if v ∈ tL.2 then tL else (tL.1 ++ [v], tL.2 ++ [v])
theorem addS_mem (vs : List Sit) : ∀ (tL : List Sit × List Sit), (∀ s ∈ tL.2, s ∈ (vs.foldl addS tL).2) ∧ (∀ s ∈ tL.1, s ∈ (vs.foldl addS tL).1) ∧ (∀ v ∈ vs, v ∈ (vs.foldl addS tL).2) ∧ (∀ s ∈ (vs.foldl addS tL).2, s ∈ tL.2 ∨ (s ∈ vs ∧ s ∈ (vs.foldl addS tL).1)) ∧ (∀ s ∈ (vs.foldl addS tL).1, s ∈ tL.1 ∨ s ∈ (vs.foldl addS tL).2) ∧ (tL.2.Nodup → (vs.foldl addS tL).2.Nodup) := by
 induction vs with
 | nil => exact fun tL => ⟨fun _ h => h, fun _ h => h, fun _ h => (by cases h), fun _ h => .inl h, fun _ h => .inl h, fun h => h⟩
 | cons v vs ih =>
   intro tL
   rw [List.foldl_cons]
   by_cases hv : v ∈ tL.2
   · rw [show addS tL v = tL from if_pos hv]
     obtain ⟨h1, h2, h3, h4, h5, h6⟩ := ih tL
     refine ⟨h1, h2, fun x hx => ?_, fun s hs => ?_, h5, h6⟩
     · rcases List.mem_cons.1 hx with rfl | hx
       · exact h1 _ hv
       exact h3 x hx
     exact (h4 s hs).imp (fun h => h) (fun h => ⟨List.mem_cons_of_mem _ h.1, h.2⟩)
   rw [show addS tL v = (tL.1 ++ [v], tL.2 ++ [v]) from if_neg hv]
   obtain ⟨h1, h2, h3, h4, h5, h6⟩ := ih (tL.1 ++ [v], tL.2 ++ [v])
   refine ⟨fun s hs => h1 s (List.mem_append_left _ hs), fun s hs => h2 s (List.mem_append_left _ hs), fun x hx => ?_, fun s hs => ?_, fun s hs => ?_, fun hn => h6 ?_⟩
   · rcases List.mem_cons.1 hx with rfl | hx
     · exact h1 _ (List.mem_append_right _ (List.mem_singleton.2 rfl))
     exact h3 x hx
   · rcases h4 s hs with h | h
     · rcases List.mem_append.1 h with h | h
       · exact .inl h
       rw [List.mem_singleton.1 h]
       exact .inr ⟨List.mem_cons_self, h2 v (List.mem_append_right _ (List.mem_singleton.2 rfl))⟩
     exact .inr ⟨List.mem_cons_of_mem _ h.1, h.2⟩
   · rcases h5 s hs with h | h
     · rcases List.mem_append.1 h with h | h
       · exact .inl h
       rw [List.mem_singleton.1 h]
       exact .inr (h1 v (List.mem_append_right _ (List.mem_singleton.2 rfl)))
     exact .inr h
   exact List.nodup_append.2 ⟨hn, by simp, fun a ha c hc => by simp at hc; subst hc; exact fun e' => hv (e' ▸ ha)⟩
theorem Pas.step {job tool : Int} {S : Sit → Prop} {todo L : List Sit} {s : Sit} (h : Pas job tool S (todo ++ [s]) L) : Pas job tool S ((nextF job tool s).foldl addS (todo, L)).1 ((nextF job tool s).foldl addS (todo, L)).2 := by
 obtain ⟨h1, h2, h3, h4, h5, h6⟩ := addS_mem (nextF job tool s) (todo, L)
 have hs : s ∈ L := h.sub s (List.mem_append_right _ (List.mem_singleton.2 rfl))
 refine ⟨fun x hx => h1 x (h.base x hx), h6 h.nd, fun x hx => ?_, fun x hx => ?_, fun x hx => ?_⟩
 · exact (h5 x hx).elim (fun e => h1 x (h.sub x (List.mem_append_left _ e))) (fun e => e)
 · rcases h4 x hx with hx | hx
   · rcases h.clo x hx with e | e
     · rcases List.mem_append.1 e with e | e
       · exact .inl (h2 x e)
       rw [List.mem_singleton.1 e]; exact .inr h3
     exact .inr fun v hv => h1 v (e v hv)
   exact .inl hx.2
 rcases h4 x hx with hx | hx
 · exact h.cl x hx
 exact .step (h.cl s hs) hx.1
theorem wt_add (vs : List Sit) : ∀ (tL : List Sit × List Sit), ((vs.foldl addS tL).1.map wtF).sum ≤ (tL.1.map wtF).sum + (vs.map wtF).sum := by
 induction vs with
 | nil => exact fun tL => by simp
 | cons v vs ih =>
   intro tL
   rw [List.foldl_cons]
   refine Nat.le_trans (ih _) ?_
   by_cases hv : v ∈ tL.2
   · rw [show addS tL v = tL from if_pos hv, List.map_cons, List.sum_cons]; omega
   rw [show addS tL v = (tL.1 ++ [v], tL.2 ++ [v]) from if_neg hv]
   simp only [List.map_append, List.sum_append, List.map_cons, List.map_nil, List.sum_cons, List.sum_nil]
   omega
theorem wt_step {job tool : Int} {todo L : List Sit} {s : Sit} : (((nextF job tool s).foldl addS (todo, L)).1.map wtF).sum < ((todo ++ [s]).map wtF).sum := by
 have h1 := wt_add (nextF job tool s) (todo, L)
 have h2 := wt_next (job := job) (tool := tool) (s := s)
 simp only [List.map_append, List.sum_append, List.map_cons, List.map_nil, List.sum_cons, List.sum_nil]
 dsimp only at h1
 omega
theorem srt_uniq {α : Type} {R : α → α → Prop} (irr : ∀ a, ¬ R a a) (asym : ∀ a b, R a b → ¬ R b a) : ∀ {l m : List α}, l.Pairwise R → m.Pairwise R → (∀ x, x ∈ l ↔ x ∈ m) → l = m
 | [], [], _, _, _ => rfl
 | [], b :: m, _, _, h => by have := (h b).2 List.mem_cons_self; cases this
 | a :: l, [], _, _, h => by have := (h a).1 List.mem_cons_self; cases this
 | a :: l, b :: m, hl, hm, h => by
   rw [List.pairwise_cons] at hl hm
   have e : a = b := by
     rcases List.mem_cons.1 ((h a).1 List.mem_cons_self) with e | h1
     · exact e
     rcases List.mem_cons.1 ((h b).2 List.mem_cons_self) with e | h2
     · exact e.symm
     exact absurd (hl.1 b h2) (asym _ _ (hm.1 a h1))
   subst e
   congr 1
   refine srt_uniq irr asym hl.2 hm.2 fun x => ⟨fun hx => ?_, fun hx => ?_⟩
   · rcases List.mem_cons.1 ((h x).1 (List.mem_cons_of_mem _ hx)) with e | h1
     · rw [e] at hx; exact absurd (hl.1 a hx) (irr a)
     exact h1
   rcases List.mem_cons.1 ((h x).2 (List.mem_cons_of_mem _ hx)) with e | h1
   · rw [e] at hx; exact absurd (hm.1 a hx) (irr a)
   exact h1
structure Wd where
 l : Int
 r : Int
 p : Int
deriving DecidableEq
def Wd.cells (x : Wd) : Array Value := #[vi x.l, vi x.r, vi x.p]
theorem Wd.one (x : Wd) : x.cells.all (·.oneCell') = true := by simp [Wd.cells, Value.oneCell']
def Sit.w (s : Sit) : Wd := ⟨s.l, s.r, s.p⟩
def ltW (a b : Wd) : Prop := a.l < b.l ∨ (a.l = b.l ∧ (a.r < b.r ∨ (a.r = b.r ∧ a.p < b.p)))
theorem ltW_irr (a : Wd) : ¬ ltW a a := by unfold ltW; omega
theorem ltW_asym (a b : Wd) (h : ltW a b) : ¬ ltW b a := by unfold ltW at *; omega
structure WsOf (S : Sit → Prop) (L : List Wd) : Prop where
 ord : L.Pairwise ltW
 mem : ∀ x, x ∈ L ↔ ∃ s, S s ∧ s.w = x
theorem WsOf.uniq {S T : Sit → Prop} {L M : List Wd} (h : WsOf S L) (k : WsOf T M) (e : ∀ s, S s ↔ T s) : L = M :=
 srt_uniq ltW_irr ltW_asym h.ord k.ord fun x => by
   rw [h.mem, k.mem]
   exact ⟨fun ⟨s, hs, hx⟩ => ⟨s, (e s).1 hs, hx⟩, fun ⟨s, hs, hx⟩ => ⟨s, (e s).2 hs, hx⟩⟩
structure Bel where
 S : Sit → Prop
 job : Int
 tool : Int
def restF (l : Int) (u : Bool) : Sit := ⟨l, 0, -1, u⟩
def Bel.new (l : Int) : Bel := ⟨fun s => s = restF l false, 0, 0⟩
def Bel.cl (b : Bel) : Sit → Prop := Cl b.job b.tool b.S
def Bel.pass (b : Bel) : Bel := { b with S := b.cl }
def imS (S : Sit → Prop) (f : Sit → Sit) : Sit → Prop := fun v => ∃ s, S s ∧ f s = v
def cmpW (a b : Wd) : Int := if Lib.compareInt a.l b.l ≠ 0 then Lib.compareInt a.l b.l else if Lib.compareInt a.r b.r ≠ 0 then Lib.compareInt a.r b.r else Lib.compareInt a.p b.p
theorem cmpW_lt (a b : Wd) : cmpW a b < 0 ↔ ltW a b := by
 unfold cmpW ltW Lib.compareInt
 by_cases h1 : a.l < b.l
 · simp [h1]
 by_cases h2 : b.l < a.l
 · simp [h1, h2]; omega
 have e : a.l = b.l := by omega
 by_cases h3 : a.r < b.r
 · simp [e, h3]
 by_cases h4 : b.r < a.r
 · simp [e, h3, h4]; omega
 have e2 : a.r = b.r := by omega
 by_cases h5 : a.p < b.p
 · simp [e, e2, h5]
 by_cases h6 : b.p < a.p
 · simp [e, e2, h5, h6]
 simp [e, e2, h5, h6]
theorem ltOfW (a b : Wd) : Go.Proofs.ltOf cmpW a b = true ↔ ltW a b := by
 unfold Go.Proofs.ltOf
 rw [decide_eq_true_iff]
 exact cmpW_lt a b
theorem ltW_trans {a b c : Wd} (h : ltW a b) (k : ltW b c) : ltW a c := by unfold ltW at *; omega
theorem ltW_tri {a b : Wd} (h : ¬ ltW a b) (k : ¬ ltW b a) : a = b := by
 obtain ⟨a1, a2, a3⟩ := a
 obtain ⟨b1, b2, b3⟩ := b
 unfold ltW at *
 dsimp only at h k
 have e1 : a1 = b1 := by omega
 have e2 : a2 = b2 := by omega
 have e3 : a3 = b3 := by omega
 rw [e1, e2, e3]
theorem ltW_neg {a b c : Wd} (h : ¬ ltW a b) (k : ¬ ltW b c) : ¬ ltW a c := fun e => by
 by_cases h2 : ltW b a
 · exact k (ltW_trans h2 e)
 rw [ltW_tri h h2] at e; exact k e
theorem swoW : Sort.SWO (Go.Proofs.ltOf cmpW) where
 irrefl x := by
   cases h : Go.Proofs.ltOf cmpW x x
   · rfl
   exact absurd ((ltOfW _ _).1 h) (ltW_irr x)
 trans x y z h k := (ltOfW _ _).2 (ltW_trans ((ltOfW _ _).1 h) ((ltOfW _ _).1 k))
 ntrans x y z h k := by
   cases e : Go.Proofs.ltOf cmpW x z
   · rfl
   exact absurd ((ltOfW _ _).1 e) (ltW_neg (fun e' => by rw [(ltOfW _ _).2 e'] at h; cases h) (fun e' => by rw [(ltOfW _ _).2 e'] at k; cases k))
theorem totW (x y : Wd) (h : Go.Proofs.ltOf cmpW x y = false) (k : Go.Proofs.ltOf cmpW y x = false) : x = y :=
 ltW_tri (fun e' => by rw [(ltOfW _ _).2 e'] at h; cases h) (fun e' => by rw [(ltOfW _ _).2 e'] at k; cases k)
theorem snoc_ind {α : Type} {p : List α → Prop} (h0 : p []) (h1 : ∀ l x, p l → p (l ++ [x])) (l : List α) : p l := by
 have h : ∀ m : List α, p m.reverse := fun m => by
   induction m with
   | nil => exact h0
   | cons x m ih => rw [List.reverse_cons]; exact h1 _ _ ih
 have := h l.reverse
 rwa [List.reverse_reverse] at this
def cptF {α : Type} [DecidableEq α] (l : List α) : List α := l.foldl (fun out x => if out.getLast? = some x then out else out ++ [x]) []
theorem cptF_snoc {α : Type} [DecidableEq α] (l : List α) (x : α) : cptF (l ++ [x]) = if (cptF l).getLast? = some x then cptF l else cptF l ++ [x] := by
 unfold cptF
 rw [List.foldl_append]
 rfl
theorem cptF_last {α : Type} [DecidableEq α] (l : List α) : (cptF l).getLast? = l.getLast? := by
 refine snoc_ind (p := fun l => (cptF l).getLast? = l.getLast?) rfl (fun l x ih => ?_) l
 · show (cptF (l ++ [x])).getLast? = _
   rw [cptF_snoc]
   split
   · rename_i h; rw [h, List.getLast?_append]; rfl
   rw [List.getLast?_append, List.getLast?_append]; rfl
theorem cptF_mem {α : Type} [DecidableEq α] (l : List α) : ∀ x, x ∈ cptF l ↔ x ∈ l := by
 refine snoc_ind (p := fun l => ∀ x, x ∈ cptF l ↔ x ∈ l) (fun x => Iff.rfl) (fun l a ih => ?_) l
 · intro x
   rw [cptF_snoc]
   split
   · rename_i h
     have ha : a ∈ l := (ih a).1 (List.mem_of_getLast? h)
     rw [ih x, List.mem_append, List.mem_singleton]
     exact ⟨.inl, fun e => e.elim id fun e => e ▸ ha⟩
   rw [List.mem_append, ih x, List.mem_append]
theorem cptF_ord {l : List Wd} (h : l.Pairwise fun a b => ¬ ltW b a) : (cptF l).Pairwise ltW := by
 revert h
 refine snoc_ind (p := fun l => l.Pairwise (fun a b => ¬ ltW b a) → (cptF l).Pairwise ltW) (fun _ => List.Pairwise.nil) (fun l x ih h => ?_) l
 · obtain ⟨h1, _, h3⟩ := List.pairwise_append.1 h
   rw [cptF_snoc]
   split
   · exact ih h1
   rename_i hx
   refine List.pairwise_append.2 ⟨ih h1, List.pairwise_singleton _ _, fun y hy z hz => ?_⟩
   rw [List.mem_singleton.1 hz]
   have hyl : y ∈ l := (cptF_mem l y).1 hy
   have hyx := h3 y hyl x (List.mem_singleton.2 rfl)
   by_cases hlt : ltW y x
   · exact hlt
   exfalso
   have e : y = x := ltW_tri hlt hyx
   rw [cptF_last] at hx
   cases hl : l.getLast? with
   | none => rw [List.getLast?_eq_none_iff.1 hl] at hyl; cases hyl
   | some z =>
     rw [hl] at hx
     have hzl := List.mem_of_getLast? hl
     have hzx := h3 z hzl x (List.mem_singleton.2 rfl)
     have hyz : ¬ ltW z y := by
       obtain ⟨pre, rfl⟩ := List.getLast?_eq_some_iff.1 hl
       rcases List.mem_append.1 hyl with h5 | h5
       · exact (List.pairwise_append.1 h1).2.2 y h5 z (List.mem_singleton.2 rfl)
       rw [List.mem_singleton.1 h5]; exact ltW_irr _
     rw [e] at hyz
     exact hx (by rw [ltW_tri hyz hzx])
theorem WsOf.of {S : Sit → Prop} {L : List Sit} (hL : ∀ s, s ∈ L ↔ S s) : WsOf S (cptF ((L.map Sit.w).mergeSort fun x y => !(Go.Proofs.ltOf cmpW) y x)) := by
 have hs : ((L.map Sit.w).mergeSort fun x y => !(Go.Proofs.ltOf cmpW) y x).Pairwise fun a b => ¬ ltW b a := by
   have h1 := List.pairwise_mergeSort (le := fun x y => !(Go.Proofs.ltOf cmpW) y x) (fun a b c h k => by
     simp only [Bool.not_eq_true'] at *
     exact swoW.ntrans _ _ _ k h) (fun a b => by
     by_cases e : ltW a b
     · have : Go.Proofs.ltOf cmpW b a = false := by
         cases e2 : Go.Proofs.ltOf cmpW b a
         · rfl
         exact absurd ((ltOfW _ _).1 e2) (ltW_asym _ _ e)
       simp [this]
     have : Go.Proofs.ltOf cmpW a b = false := by
       cases e2 : Go.Proofs.ltOf cmpW a b
       · rfl
       exact absurd ((ltOfW _ _).1 e2) e
     simp [this]) (L.map Sit.w)
   refine h1.imp fun {a b} h e => ?_
   rw [(ltOfW _ _).2 e] at h
   cases h
 refine ⟨cptF_ord hs, fun x => ?_⟩
 rw [cptF_mem, (List.mergeSort_perm _ _).mem_iff, List.mem_map]
 exact ⟨fun ⟨s, h1, h2⟩ => ⟨s, (hL s).1 h1, h2⟩, fun ⟨s, h1, h2⟩ => ⟨s, (hL s).2 h1, h2⟩⟩
open Classical in
/-- a tool was told to start a job: what is answered, and the belief afterwards -/
noncomputable def Bel.cmd (b : Bel) (j t : Int) : Int × Bel :=
 if j < 1 ∨ 1000000 < j ∨ t < 0 ∨ 60 ≤ t ∨ (∃ s, b.S s ∧ (s.u = true ∨ 0 < s.r ∨ j ≤ s.l)) then (270, b) else (0, ⟨imS b.S (fun s => { s with u := true }), j, t⟩)
def Bel.kept (b : Bel) (fits : Wd → Bool) (over : Bool) : Bel := { b with S := imS (fun s => b.cl s ∧ fits s.w = true) (fun s => if over then { s with u := false } else s) }
open Classical in
noncomputable def Bel.keep (b : Bel) (fits : Wd → Bool) (over : Bool) : Bool × Bel := if ∃ s, b.cl s ∧ fits s.w = true then (true, b.kept fits over) else (false, b)
def fitsR (tool : Int) : Wd → Bool := fun w => decide (w.r = 0) || !decide (w.p = tool)
noncomputable def Bel.restart (b : Bel) (tool : Int) : Bel := (b.keep (fitsR tool) (decide (b.tool = tool))).2
def fitsK (k n : Int) : Option (Wd → Bool) :=
 if k = 1 then some fun w => decide (w = ⟨n, 0, -1⟩)
 else if k = 2 then some fun w => decide (w.r = n)
 else if k = 3 then some fun w => !decide (w.r = n)
 else if k = 4 then some fun w => !decide (w.l = n) && !decide (w.r = n)
 else if k = 5 then some fun w => decide (w.p = n)
 else none
noncomputable def Bel.report (b : Bel) (k n : Int) : Int × Bel :=
 match fitsK k n with
 | none => (270, b)
 | some f => if (b.keep f (!decide (k = 5) && decide (n = b.job))).1 then (0, (b.keep f (!decide (k = 5) && decide (n = b.job))).2) else (270, b)
theorem Bel.pass_pass (b : Bel) : b.pass.pass = b.pass := by
 have : b.pass.pass.S = b.pass.S := funext fun s => propext Cl.idem
 unfold Bel.pass at *
 simp only at this
 rw [this]
theorem pass_worlds {b : Bel} {L M : List Wd} (h : WsOf b.S L) (k : WsOf b.pass.S M) : ∀ x ∈ L, x ∈ M := fun x hx => by
 obtain ⟨s, hs, e⟩ := (h.mem x).1 hx
 exact (k.mem x).2 ⟨s, .base hs, e⟩
theorem report_worlds {b : Bel} (k n : Int) {M N : List Wd} (hM : WsOf b.pass.S M) (hN : WsOf (b.report k n).2.S N) : ((b.report k n).1 ≠ 0 → (b.report k n).2 = b) ∧ ((b.report k n).1 = 0 → ∀ x ∈ N, x ∈ M) := by
 unfold Bel.report at hN ⊢
 cases hf : fitsK k n with
 | none => exact ⟨fun _ => rfl, fun e => by simp at e⟩
 | some f =>
   rw [hf] at hN
   dsimp only at hN ⊢
   generalize ho : (!decide (k = 5) && decide (n = b.job)) = o at hN ⊢
   by_cases hx : ∃ s, b.cl s ∧ f s.w = true
   · have e : b.keep f o = (true, b.kept f o) := if_pos hx
     rw [e] at hN ⊢
     dsimp only at hN ⊢
     rw [if_pos rfl] at hN ⊢
     refine ⟨fun e => absurd rfl e, fun _ x hx => ?_⟩
     obtain ⟨v, ⟨s, hs, e'⟩, hv⟩ := (hN.mem x).1 hx
     refine (hM.mem x).2 ⟨s, hs.1, ?_⟩
     rw [← hv, ← e']
     split <;> rfl
   have e : b.keep f o = (false, b) := if_neg hx
   rw [e] at hN ⊢
   exact ⟨fun _ => rfl, fun e => by simp at e⟩
theorem cl_list {job tool : Int} {L0 L : List Sit} (h0 : ∀ s ∈ L0, s ∈ L) (h1 : ∀ s ∈ L, ∀ v ∈ nextF job tool s, v ∈ L) (h2 : ∀ s ∈ L, Cl job tool (· ∈ L0) s) : Cl job tool (· ∈ L0) = (· ∈ L) :=
 funext fun s => propext ⟨fun k => by
   induction k with
   | base hs => exact h0 _ hs
   | step _ hv ih => exact h1 _ ih _ hv, h2 s⟩
theorem imS_list (L : List Sit) (f : Sit → Sit) : imS (· ∈ L) f = (· ∈ L.map f) := funext fun _ => propext List.mem_map.symm
theorem sub_list (L : List Sit) (f : Wd → Bool) : (fun s => s ∈ L ∧ f s.w = true) = (· ∈ L.filter fun s => f s.w) := funext fun s => propext (by rw [List.mem_filter])
theorem ws_list {L : List Sit} {M N : List Wd} (h : WsOf (· ∈ L) M) (ho : N.Pairwise ltW) (h1 : ∀ s ∈ L, s.w ∈ N) (h2 : ∀ x ∈ N, ∃ s ∈ L, s.w = x) : M = N :=
 h.uniq (⟨ho, fun x => ⟨fun hx => h2 x hx, fun ⟨s, hs, e⟩ => e ▸ h1 s hs⟩⟩ : WsOf (· ∈ L) N) fun _ => Iff.rfl
def bl (L : List Sit) (j t : Int) : Bel := ⟨(· ∈ L), j, t⟩
structure ClL (job tool : Int) (L M : List Sit) : Prop where
 sub : ∀ s ∈ L, s ∈ M
 clo : ∀ s ∈ M, ∀ v ∈ nextF job tool s, v ∈ M
 cl : ∀ s ∈ M, Cl job tool (· ∈ L) s
theorem bl_new (l : Int) : Bel.new l = bl [⟨l, 0, -1, false⟩] 0 0 := by
 unfold Bel.new bl
 congr 1
 funext s
 rw [List.mem_singleton]
 rfl
theorem bl_pass {L M : List Sit} {j t : Int} (h : ClL j t L M) : (bl L j t).pass = bl M j t := by
 show (⟨Cl j t (· ∈ L), j, t⟩ : Bel) = ⟨(· ∈ M), j, t⟩
 rw [cl_list h.sub h.clo h.cl]
theorem bl_cmd {L : List Sit} {j0 t0 j t : Int} (h : 1 ≤ j ∧ j ≤ 1000000 ∧ 0 ≤ t ∧ t < 60) (k : ∀ s ∈ L, s.u = false ∧ s.r ≤ 0 ∧ s.l < j) : (bl L j0 t0).cmd j t = (0, bl (L.map fun s => { s with u := true }) j t) := by
 unfold Bel.cmd
 rw [if_neg]
 · unfold bl
   rw [show imS (⟨(· ∈ L), j0, t0⟩ : Bel).S (fun s => { s with u := true }) = _ from imS_list L _]
 rintro (e | e | e | e | ⟨s, hs, e⟩)
 · omega
 · omega
 · omega
 · omega
 obtain ⟨h1, h2, h3⟩ := k s hs
 rcases e with e | e | e
 · rw [h1] at e; cases e
 · omega
 omega
theorem bl_cmdNo {L : List Sit} {j0 t0 j t : Int} {s : Sit} (hs : s ∈ L) (h : s.u = true) : (bl L j0 t0).cmd j t = (270, bl L j0 t0) := if_pos (.inr (.inr (.inr (.inr ⟨s, hs, .inl h⟩))))
theorem bl_keep {L M : List Sit} {j t : Int} {f : Wd → Bool} {o : Bool} (h : ClL j t L M) {s : Sit} (hs : s ∈ M) (hf : f s.w = true) : (bl L j t).keep f o = (true, bl ((M.filter fun s => f s.w).map fun s => if o then { s with u := false } else s) j t) := by
 unfold Bel.keep
 have e : (bl L j t).cl = (· ∈ M) := cl_list h.sub h.clo h.cl
 rw [if_pos ⟨s, by rw [e]; exact hs, hf⟩]
 unfold Bel.kept
 rw [e, sub_list, imS_list]
 rfl
theorem bl_keepNo {L M : List Sit} {j t : Int} {f : Wd → Bool} {o : Bool} (h : ClL j t L M) (hf : ∀ s ∈ M, f s.w = false) : (bl L j t).keep f o = (false, bl L j t) := by
 unfold Bel.keep
 have e : (bl L j t).cl = (· ∈ M) := cl_list h.sub h.clo h.cl
 rw [if_neg]
 rintro ⟨s, hs, k⟩
 rw [e] at hs
 rw [hf s hs] at k
 cases k
def sA : Sit := ⟨4, 0, -1, false⟩
def sB : Sit := ⟨4, 0, -1, true⟩
def sC : Sit := ⟨4, 7, 2, false⟩
def sD : Sit := ⟨7, 0, -1, false⟩
theorem clB : ClL 7 2 [sB] [sB, sC, sD, sA] := by
 have hb : Cl 7 2 (· ∈ [sB]) sB := .base (List.mem_singleton.2 rfl)
 have hc : Cl 7 2 (· ∈ [sB]) sC := .step hb cQ
 have hd : Cl 7 2 (· ∈ [sB]) sD := .step hc cQ
 have ha : Cl 7 2 (· ∈ [sB]) sA := .step hc cQ
 refine ⟨by decide, by decide, fun s hs => ?_⟩
 simp only [List.mem_cons, List.not_mem_nil, or_false] at hs
 rcases hs with rfl | rfl | rfl | rfl
 · exact hb
 · exact hc
 · exact hd
 exact ha
theorem clBig : ClL 7 2 [sB, sC, sD, sA] [sB, sC, sD, sA] := ⟨by decide, by decide, fun s hs => .base hs⟩
theorem sane1 : (Bel.new 4).cmd 7 2 = (0, bl [sB] 7 2) := by rw [bl_new, bl_cmd cQ (by decide)]; rfl
theorem sane2 : (bl [sB] 7 2).pass = bl [sB, sC, sD, sA] 7 2 := bl_pass clB
theorem sane3 : (bl [sB, sC, sD, sA] 7 2).cmd 8 1 = (270, bl [sB, sC, sD, sA] 7 2) := bl_cmdNo (s := sB) cQ rfl
theorem sane4 : (bl [sB, sC, sD, sA] 7 2).restart 2 = bl [sA, sD, sA] 7 2 := by
 unfold Bel.restart
 rw [bl_keep clBig (s := sA) cQ (by decide)]
 rfl
theorem clADA : ClL 7 2 [sA, sD, sA] [sA, sD, sA] := ⟨by decide, by decide, fun s hs => .base hs⟩
theorem sane5 : (bl [sA, sD, sA] 7 2).report 2 7 = (270, bl [sA, sD, sA] 7 2) := by
 show (if ((bl [sA, sD, sA] 7 2).keep _ _).1 then _ else _) = _
 rw [bl_keepNo clADA (by decide)]
 rfl
theorem sane6 : (bl [sA, sD, sA] 7 2).report 4 7 = (0, bl [sA, sA] 7 2) := by
 show (if ((bl [sA, sD, sA] 7 2).keep _ _).1 then (0, ((bl [sA, sD, sA] 7 2).keep _ _).2) else _) = _
 rw [bl_keep clADA (s := sA) cQ (by decide)]
 rfl
theorem saneW1 {M : List Wd} (h : WsOf (bl [sB] 7 2).S M) : M = [⟨4, 0, -1⟩] := ws_list h (List.pairwise_singleton _ _) cQ cQ
theorem saneW2 {M : List Wd} (h : WsOf (bl [sB, sC, sD, sA] 7 2).S M) : M = [⟨4, 0, -1⟩, ⟨4, 7, 2⟩, ⟨7, 0, -1⟩] := ws_list h (by simp [ltW]) cQ cQ
theorem saneW3 {M : List Wd} (h : WsOf (bl [sA, sD, sA] 7 2).S M) : M = [⟨4, 0, -1⟩, ⟨7, 0, -1⟩] := ws_list h (by simp [ltW]) cQ cQ
theorem saneW4 {M : List Wd} (h : WsOf (bl [sA, sA] 7 2).S M) : M = [⟨4, 0, -1⟩] := ws_list h (List.pairwise_singleton _ _) cQ cQ
end Go.Wx
namespace Go.Proofs.Ytpofdidofjlkhaa
open Go.Proofs.Try
open Go.Wx Go.RowKit
end Go.Proofs.Ytpofdidofjlkhaa
end
