import Derived.Test.YtbbpkdlehlamlaaGreatDoorKR412
import Derived.ChangeKeysEq
section
namespace Go.Wx
open Go.RowKit in
theorem KW.retAT {P : Program} {n : Nat} {l : Env} {w : World} {fn : Func} {RR : Ending → World → Prop} {t u : Tmp} {T : TypeId} {B k : Nat} {cs : Array Go.Value} {x : Go.Value} (hr : fn.results = #[.cell t T, .tmp u]) (hv : lk l t = some (.eq (.pointer (some ⟨B, 0, none⟩)))) (hu : lk l u = some (.eq x)) (hT : ∀ w, (isAgg T).run P w = .ok true w) (hs : ∀ w, (sizeOf T).run P w = .ok k w) (hk : cs.size = k)
   (hc : AggAt w B 0 cs) (hR : RR (.returned (.tuple #[.agg cs, x])) w) : KW n [] (bodyPost P fn RR .ret) l w := fun a ha =>
 ⟨ha.defers, .tuple #[.agg cs, x], by
   have h1 : a.tmps.getD t undef = .pointer (some ⟨B, 0, none⟩) := ha.val _ _ hv
   have h2 : a.tmps.getD u undef = x := ha.val _ _ hu
   rw [Array.getD_eq_getD_getElem?] at h1 h2
   simp [results, hr, h1, h2, asAddr, run_loadVarA hT hs hk hc], hR⟩
def zeroF : Fact := fact0 0 0 0 false
def tgStep (r t : Int) (s : Fact × Bool) (x : Fact) : Fact × Bool := if decide (x.Recipe = r) && decide (x.Time ≤ t) && (!s.2 || decide (s.1.Time < x.Time)) then (x, true) else s
def tgF (r t : Int) (l : List Fact) : Fact × Bool := l.foldl (tgStep r t) (zeroF, false)
theorem tgF_take {r t : Int} {l : List Fact} {k : Nat} {x : Fact} (h : l[k]? = some x) : tgF r t (l.take (k + 1)) = tgStep r t (tgF r t (l.take k)) x := by
 rw [take_succ_of h, tgF, List.foldl_append]; rfl
theorem tg_yes {r t : Int} {s : Fact × Bool} {x : Fact} (h : (decide (x.Recipe = r) && decide (x.Time ≤ t) && (!s.2 || decide (s.1.Time < x.Time))) = true) : tgStep r t s x = (x, true) := if_pos h
theorem tg_no {r t : Int} {s : Fact × Bool} {x : Fact} (h : (decide (x.Recipe = r) && decide (x.Time ≤ t) && (!s.2 || decide (s.1.Time < x.Time))) = false) : tgStep r t s x = s := if_neg (by rw [h]; exact Bool.false_ne_true)
theorem take_none {p : Fact → Bool} {l : List Fact} {k : Nat} {x : Fact} (h : l[k]? = some x) (hk : ∀ y ∈ l.take k, p y = false) (hx : p x = false) : ∀ y ∈ l.take (k + 1), p y = false := fun y hy => by
 rw [take_succ_of h] at hy
 rcases List.mem_append.1 hy with hy | hy
 · exact hk y hy
 cases List.mem_singleton.1 hy; exact hx
theorem find_at {p : Fact → Bool} {l : List Fact} {k : Nat} {x : Fact} (h : l[k]? = some x) (hk : ∀ y ∈ l.take k, p y = false) (hx : p x = true) : l.find? p = some x := by
 have hlt := (gQ.1 h).1
 have e : l = l.take k ++ x :: l.drop (k + 1) := by
   have h1 : l.drop k = x :: l.drop (k + 1) := by
     rw [List.drop_eq_getElem_cons hlt, (gQ.1 h).2]
   rw [← h1, List.take_append_drop]
 rw [e, List.find?_append, List.find?_eq_none.2 (fun y hy => by rw [hk y hy]; exact Bool.false_ne_true), List.find?_cons, hx]
 rfl
theorem find_no {p : Fact → Bool} {l : List Fact} (h : ∀ y ∈ l, p y = false) : l.find? p = none := List.find?_eq_none.2 (fun y hy => by rw [h y hy]; exact Bool.false_ne_true)
def IdxP (p : Fact → Bool) (l : List Fact) (i : Int) : Prop := (∃ k x, i = ((k : Nat) : Int) ∧ l[k]? = some x ∧ p x = true ∧ ∀ y ∈ l.take k, p y = false) ∨ (i = -1 ∧ ∀ y ∈ l, p y = false)
end Go.Wx
namespace Go.Proofs.YtbbpkdlehlamlaaGreatDoor
open Go.Proofs.Tryz
open Go.Wx Go.RowKit
theorem Target_any (bc : Array Go.Value) (b : Base) (r t : Int) (w : World) (hC : BaseC w bc b) (hl : b.Targets.length ≤ 100000) : Ret prog 173 #[.agg bc, vi r, vi t] w fun r0 w' => r0 = .tuple #[vi (tgF r t b.Targets).1.Value, .bool (tgF r t b.Targets).2] ∧ Up w w' := by
 obtain ⟨w0, rfl⟩ : ∃ w0, w0 = w := ⟨_, rfl⟩
 have hS := Sep.start no w0
 obtain ⟨v9, h9, hr9⟩ := hC.at9
 obtain ⟨ad, cp, rfl, hE0⟩ := hr9
 refine cS (n := 45) (m := 9) func173 rfl rfl rfl (CW.S (LW.rr (.boxA (.t rfl)) rfl ?_))
 rintro _ w1 ⟨B3, rfl, NB3⟩
 replace hS := hS.addB NB3
 refine LW.C (LW.C (LW.S (CW.region (LW.rr (.allocA zeroValue24) rfl ?_))))
 rintro _ w2 ⟨B8, rfl, NB8⟩
 replace hS := hS.addB NB8
 refine LW.S (CW.region (LW.C (LW.S (CW.S (LW.pp (.fA 9 underlying32 rfl sizeOf26 rfl) (LW.pp (.ld isAgg26 rfl ((hS.blk 0 rfl).cell h9)) (LW.pp (.lenS underlying26 (.t rfl)) (LW.pp (.move (.const _)) (LW.T (CW.block (CW.loopB (σ := Nat × Fact × Bool) (fun s w => (s.1 ≤ b.Targets.length) ∧ (s.2 = tgF r t (b.Targets.take s.1)) ∧ (Wx.Sep no w0 w [aBlk B3 (bc) 32, aBlk B8 (s.2.1.cells) 24])) (fun s => [(15, .eq (vi (s.1 : Int))), (9, .eq (.bool s.2.2))]) ([(1, .eq _), (2, .eq _), (6, .eq _), (7, .eq _), (8, .eq _), (13, .eq _), (14, .eq _)]) (fun s => b.Targets.length - s.1) (0, zeroF, false) ?_ ⟨rfl, rfl, rfl, rfl, rfl, rfl, rfl, rfl, rfl, trivial⟩ ?_)))))))))))
 ·exact ⟨Nat.zero_le _, rfl, hS⟩
 rintro ⟨k, f, fd⟩ w3 ⟨hk, ht, hS⟩
 change CW _ _ _ _ _ _ _ ([(15, .eq (vi (k : Int))), (9, .eq (.bool fd))] ++ _) _
 refine CW.S (LW.pp (.lss (.t rfl) (.t rfl)) (LW.S (CW.cond (.t rfl) (fun h16 => ?_) (fun h16 => ?_))))
 ·replace h16 := dQ h16
  refine CW.skip (KW.then (CW.seq (CW.block (CW.seq ?_))))
  have hE := Els.up hE0 hS.upd
  refine CW.region ?_
  obtain ⟨x, hx⟩ := getElem?_of_lt (xs := b.Targets) (i := k) oQ
  obtain ⟨Bx, ox, ax, hcx⟩ := hE _ x hx
  refine LW.pp (.indexAddr' underlying26 sizeOf24 (.t rfl) (.t rfl) oQ ax) (LW.pp (.la isAgg24 sizeOf24 rfl (hcx)) (LW.rr (.allocA zeroValue24) rfl ?_))
  rintro _ w4 ⟨B11, rfl, MB11⟩
  refine LW.E (.storeA sizeOf24 rfl (.t rfl) (.t rfl) eQ MB11.blk rfl) ?_
  intro w5 LB11
  have NB11 := MB11.set LB11
  replace hcx := hcx.up NB11.up
  replace hS := hS.addB NB11
  refine LW.S (CW.region (LW.pp (.fA 14 underlying24 rfl sizeOf3 rfl) (LW.pp (.ld isAgg3 rfl ((hS.blk 2 rfl).celln rfl)) (LW.M rfl (LW.pp (.eql (.t rfl) (.t rfl)) (LW.M rfl (LW.g rfl rfl rfl rfl rfl rfl rfl (fun hc => PEv.fA 5 underlying24 rfl sizeOf3 rfl) (LW.g rfl rfl rfl rfl rfl rfl rfl (fun hc => PEv.load isAgg3 vQ ((hS.blk 2 rfl).celln rfl)) (LW.g rfl rfl rfl rfl rfl rfl rfl (fun hc => PEv.move (.t rfl)) (LW.g rfl rfl rfl rfl rfl rfl rfl (fun hc => PEv.leq vQ vQ) (LW.pp (.pick_and (.t rfl) (fun hp => (by exact .cond rfl (by simp_all)))) (LW.M rfl (LW.g rfl rfl rfl rfl rfl rfl rfl (fun hc => PEv.move (.t rfl)) (LW.g rfl rfl rfl rfl rfl rfl rfl (fun hc => PEv.not vQ) (LW.g rfl rfl rfl rfl rfl rfl rfl (fun hc => PEv.move vQ) (LW.gg rfl rfl rfl rfl rfl rfl rfl (fun hc => PEv.fA 5 underlying24 rfl sizeOf3 rfl) (LW.gg rfl rfl rfl rfl rfl rfl rfl (fun hc => PEv.load isAgg3 vQ ((hS.blk 2 rfl).celln rfl)) (LW.gg rfl rfl rfl rfl rfl rfl rfl (fun hc => PEv.fA 5 underlying24 rfl sizeOf3 rfl) (LW.gg rfl rfl rfl rfl rfl rfl rfl (fun hc => PEv.load isAgg3 vQ ((hS.blk 1 rfl).celln rfl)) (LW.gg rfl rfl rfl rfl rfl rfl rfl (fun hc => PEv.gtr vQ vQ) (LW.g rfl rfl rfl rfl rfl rfl rfl (fun hc => PEv.pick_or vQ (fun hp => (by exact .cond rfl (by simp_all)))) (LW.pp (.pick_and (.t rfl) (fun hp => (by exact .cond rfl (by simp_all)))) (LW.T (CW.cond (.t rfl) (fun h39 => ?_) (fun h39 => ?_)))))))))))))))))))))))))
  ·replace h39 := dQ h39
   refine CW.region (LW.pp (.la isAgg24 sizeOf24 rfl ((hS.blk 2 rfl).agg)) (LW.E (.storeA sizeOf24 rfl (.t rfl) (.t rfl) eQ (hS.blk 1 rfl) rfl) ?_))
   intro w6 Nw6
   replace hS := hS.putB 1 rfl Nw6
   refine LW.C (LW.nil (KW.inBlock (KW.then (CW.region (LW.pp (.inc (.t rfl) oQ) (LW.M rfl (LW.nil (KW.round ?_))))))))
   exact ⟨(k + 1, x, true), ⟨by show k + 1 ≤ _; omega, by rw [tgF_take hx, ← ht]; exact (tg_yes (by simpa using h39)).symm, hS.take 2⟩, ⟨rfl, rfl, rfl, rfl, rfl, rfl, rfl, rfl, rfl, trivial⟩, by show b.Targets.length - (k + 1) < b.Targets.length - k; omega⟩
  replace h39 := dQ h39
  refine CW.skip (KW.inBlock (KW.then (CW.region (LW.pp (.inc (.t rfl) oQ) (LW.M rfl (LW.nil (KW.round ?_)))))))
  exact ⟨(k + 1, f, fd), ⟨by show k + 1 ≤ _; omega, by rw [tgF_take hx, ← ht]; exact (tg_no (by simpa using h39)).symm, hS.take 2⟩, ⟨rfl, rfl, rfl, rfl, rfl, rfl, rfl, rfl, rfl, trivial⟩, by show b.Targets.length - (k + 1) < b.Targets.length - k; omega⟩
 replace h16 := dQ h16
 refine CW.exit (KW.then_exit (KW.then_exit (KW.block_hit (KW.then (CW.S (LW.pp (.fA 16 underlying24 rfl sizeOf3 rfl) (LW.pp (.ld isAgg3 rfl ((hS.blk 1 rfl).celln rfl)) (LW.M rfl (LW.A rfl (LW.A rfl (LW.T (CW.ret (KW.ret2 rfl rfl rfl ⟨_, rfl, ?_⟩)))))))))))))
 have hkl : k = b.Targets.length := by omega
 rw [hkl, List.take_length] at ht
 rw [← ht]
 exact ⟨rfl, hS.upd⟩
theorem index_any (cf : Nat) (lb : Array Go.Value) (p : Fact → Bool) (hen : ∀ args w, (callFunc cf args).run prog w = .ok (.enter cf args) w) (ad : Option Addr) (cp : Nat) (l : List Fact) (w : World) (hE0 : Els w ad 19 Fact.cells l) (hl : l.length ≤ 100000) (hp : ∀ W, Up w W → ∀ x, Ret prog cf (#[.agg (Fact.cells x)] ++ lb) W fun r W' => r = .bool (p x) ∧ Up W W') : Ret prog 179 #[.slice ad l.length cp, .func (.func cf) #[] lb] w fun r w' => ∃ i, r = vi i ∧ IdxP p l i ∧ Up w w' := by
 have hW := Up.refl w
 obtain ⟨w0, rfl⟩ : ∃ w0, w0 = w := ⟨_, rfl⟩
 refine cS (n := 19) (m := 9) func179 rfl rfl rfl (CW.S (LW.C (LW.S (CW.S (LW.M rfl (LW.pp (.lenS underlying26 (.t rfl)) (LW.pp (.move (.const _)) (LW.T (CW.block (CW.loopB (σ := Nat) (fun s w => (s ≤ l.length) ∧ (∀ y ∈ l.take s, p y = false) ∧ (Up w0 w)) (fun s => [(8, .eq (vi (s : Int)))]) ([(0, .eq _), (1, .eq _), (7, .eq _)]) (fun s => l.length - s) 0 ?_ ⟨rfl, rfl, rfl, rfl, trivial⟩ ?_))))))))))
 ·exact ⟨Nat.zero_le _, by simp, hW⟩
 rintro k w1 ⟨hk, hn, hW⟩
 refine CW.S (LW.pp (.lss (.t rfl) (.t rfl)) (LW.S (CW.cond (.t rfl) (fun h9 => ?_) (fun h9 => ?_))))
 ·replace h9 := dQ h9
  refine CW.skip (KW.then (CW.seq (CW.block (CW.S (LW.M rfl (LW.A rfl (LW.S ?_)))))))
  have hE := Els.up hE0 hW
  refine CW.region (LW.M rfl (LW.M rfl (LW.M rfl ?_)))
  obtain ⟨x, hx⟩ := getElem?_of_lt (xs := l) (i := k) oQ
  obtain ⟨Bx, ox, ax, hcx⟩ := hE _ x hx
  refine LW.pp (.indexAddr' underlying26 sizeOf24 (.t rfl) (.t rfl) oQ ax) (LW.pp (.la isAgg24 sizeOf24 rfl (hcx)) (LW.K (enter_call (.t rfl) (.cons (.t rfl) .nil) (hen)) rfl (hp _ hW x) ?_))
  rintro _ w2 ⟨rfl, uw2⟩
  replace hW := hW.up uw2
  replace hcx := hcx.up uw2
  refine LW.T (CW.cond (.t rfl) (fun h16 => ?_) (fun h16 => ?_))
  ·replace h16 := dQ h16
   refine CW.S (LW.M rfl (LW.A rfl (LW.T (CW.ret (KW.block_ret (KW.then_ret (KW.then_ret (KW.block_ret (KW.then_ret (KW.ret1 rfl rfl ⟨_, rfl, ?_⟩))))))))))
   exact ⟨_, rfl, .inl ⟨k, x, rfl, hx, by simpa using h16, hn⟩, hW⟩
  replace h16 := dQ h16
  refine CW.skip (KW.inBlock (KW.then (CW.region (LW.pp (.inc (.t rfl) oQ) (LW.M rfl (LW.nil (KW.round ?_)))))))
  exact ⟨k + 1, ⟨by omega, take_none hx hn (by simpa using h16), hW⟩, ⟨rfl, rfl, rfl, rfl, trivial⟩, by omega⟩
 replace h9 := dQ h9
 refine CW.exit (KW.then_exit (KW.then_exit (KW.block_hit (KW.then (CW.S (LW.C (LW.T (CW.ret (KW.ret1 rfl rfl ⟨_, rfl, ?_⟩)))))))))
 exact ⟨-1, rfl, .inr ⟨rfl, by rw [show k = l.length by omega, List.take_length] at hn; exact hn⟩, hW⟩
theorem first_any (cf : Nat) (lb : Array Go.Value) (p : Fact → Bool) (hen : ∀ args w, (callFunc cf args).run prog w = .ok (.enter cf args) w) (ad : Option Addr) (cp : Nat) (l : List Fact) (w : World) (hE0 : Els w ad 19 Fact.cells l) (hl : l.length ≤ 100000) (hp : ∀ W, Up w W → ∀ x, Ret prog cf (#[.agg (Fact.cells x)] ++ lb) W fun r W' => r = .bool (p x) ∧ Up W W') : Ret prog 105 #[.slice ad l.length cp, .func (.func cf) #[] lb] w fun r w' => r = .tuple #[.agg ((l.find? p).getD zeroF).cells, .bool (l.find? p).isSome] ∧ Up w w' := by
 obtain ⟨w0, rfl⟩ : ∃ w0, w0 = w := ⟨_, rfl⟩
 have hS := Sep.start no w0
 refine cS (n := 18) (m := 9) func105 rfl rfl rfl (CW.S (LW.rr (.allocA zeroValue24) rfl ?_))
 rintro _ w1 ⟨B4, rfl, NB4⟩
 replace hS := hS.addB NB4
 refine LW.C (LW.S (CW.S (LW.M rfl (LW.M rfl (LW.K (eC (.u rfl rfl) (en179)) rfl (index_any cf lb p hen ad cp l _ (Els.up hE0 hS.upd) hl (fun W u x => hp W (hS.upd.trans u) x)) ?_)))))
 rintro _ w2 ⟨i, rfl, hi, uw2⟩
 replace hS := hS.up uw2
 refine LW.A rfl (LW.S (CW.region (LW.M rfl (LW.pp (.geq (.t rfl) (.const _)) (LW.T (CW.cond (.t rfl) (fun h12 => ?_) (fun h12 => ?_)))))))
 ·replace h12 := dQ h12
  refine CW.seq ?_
  obtain ⟨k, x, rfl, hx, hpx, hn⟩ := hi.resolve_right (fun ⟨e, _⟩ => by omega)
  rw [find_at hx hn hpx]
  obtain ⟨Bx, ox, ax, hcx⟩ := (Els.up hE0 hS.upd) k x hx
  have hkl := (gQ.1 hx).1
  refine CW.region (LW.M rfl (LW.M rfl (LW.pp (.indexAddr' underlying26 sizeOf24 (.t rfl) (.t rfl) oQ ax) (LW.pp (.la isAgg24 sizeOf24 rfl (hcx)) (LW.E (.storeA sizeOf24 rfl (.t rfl) (.t rfl) eQ (hS.blk 0 rfl) rfl) ?_)))))
  intro w3 Nw3
  replace hS := hS.putB 0 rfl Nw3
  refine LW.C (LW.T (CW.ret (KW.then_ret (KW.retAT rfl rfl rfl isAgg24 sizeOf24 rfl ((hS.blk 0 rfl)).agg ⟨_, rfl, ?_⟩))))
  exact ⟨rfl, hS.upd⟩
 replace h12 := dQ h12
 refine CW.skip (KW.then (CW.seq ?_))
 have hn := (hi.resolve_left (fun ⟨k, x, e, _⟩ => by omega)).2
 rw [find_no hn]
 refine CW.region (LW.rr (.allocA zeroValue24) rfl ?_)
 rintro _ w4 ⟨B7, rfl, NB7⟩
 replace hS := hS.addB NB7
 refine LW.S (CW.region (LW.pp (.la isAgg24 sizeOf24 rfl ((hS.blk 1 rfl).agg)) (LW.E (.storeA sizeOf24 rfl (.t rfl) (.t rfl) eQ (hS.blk 0 rfl) rfl) ?_)))
 intro w5 Nw5
 replace hS := hS.putB 0 rfl Nw5
 refine LW.C (LW.T (CW.ret (KW.retAT rfl rfl rfl isAgg24 sizeOf24 rfl ((hS.blk 0 rfl)).agg ⟨_, rfl, ?_⟩)))
 exact ⟨rfl, hS.upd⟩
end Go.Proofs.YtbbpkdlehlamlaaGreatDoor
namespace Go.Wx
def procB (b : Base) (id : Int) : Option Fact := b.Processes.find? fun f => decide (f.ID = id)
def measB (b : Base) (id : Int) : Option Fact := b.Measures.find? fun f => decide (f.ID = id)
end Go.Wx
namespace Go.Proofs.YtbbpkdlehlamlaaGreatDoor
open Go.Proofs.Tryz
open Go.Wx Go.RowKit
theorem Process1_any (f : Fact) (id : Int) (B : Nat) (w : World) (hB : Blk w B #[vi id] 3) : Ret prog 106 #[.agg f.cells, .pointer (some ⟨B, 0, none⟩)] w fun r w' => r = .bool (decide (f.ID = id)) ∧ Up w w' := by
 have hW := Up.refl w
 obtain ⟨w0, rfl⟩ : ∃ w0, w0 = w := ⟨_, rfl⟩
 refine cS (n := 8) (m := 9) func106 rfl rfl rfl (CW.S (LW.rr (.boxA (.t rfl)) rfl ?_))
 rintro _ w1 ⟨B2, rfl, NB2⟩
 replace hW := hW.up NB2.up
 have hB2 := NB2.blk
 refine LW.C (LW.S (CW.region (LW.pp (.fA 1 underlying24 rfl sizeOf3 rfl) (LW.pp (.ld isAgg3 rfl (hB2.celln rfl)) (LW.pp (.ld isAgg3 rfl ((hB.up hW).celln rfl)) (LW.pp (.eql (.t rfl) (.t rfl)) (LW.A rfl (LW.T (CW.ret (KW.ret1 rfl rfl ⟨_, rfl, ?_⟩))))))))))
 exact ⟨rfl, hW⟩
theorem Process_any (bc : Array Go.Value) (b : Base) (id : Int) (w : World) (hC : BaseC w bc b) (hl : b.Processes.length ≤ 100000) : Ret prog 54 #[.agg bc, vi id] w fun r w' => r = .tuple #[.agg ((procB b id).getD zeroF).cells, .bool (procB b id).isSome] ∧ Up w w' := by
 obtain ⟨w0, rfl⟩ : ∃ w0, w0 = w := ⟨_, rfl⟩
 have hS := Sep.start no w0
 obtain ⟨v0, h0, hr0⟩ := hC.at0
 obtain ⟨ad, cp, rfl, hE0⟩ := hr0
 refine cS (n := 12) (m := 9) func54 rfl rfl rfl (CW.S (LW.rr (.boxA (.t rfl)) rfl ?_))
 rintro _ w1 ⟨B2, rfl, NB2⟩
 replace hS := hS.addB NB2
 refine LW.rr (.box1 (.t rfl) rfl) rfl ?_
 rintro _ w2 ⟨B3, rfl, NB3⟩
 replace hS := hS.addB NB3
 refine LW.rr (.allocA zeroValue24) rfl ?_
 rintro _ w3 ⟨B4, rfl, NB4⟩
 replace hS := hS.addB NB4
 refine LW.C (LW.S (CW.region (LW.pp (.fA 0 underlying32 rfl sizeOf26 rfl) (LW.pp (.ld isAgg26 rfl ((hS.blk 0 rfl).cell h0)) (LW.pp (.makeFunc (.cons (.t rfl) .nil)) (LW.K (eC (.u rfl rfl) (en105)) rfl (first_any 106 #[.pointer (some ⟨B3, 0, none⟩)] (fun f => decide (f.ID = id)) en106 ad cp b.Processes _ (Els.up hE0 hS.upd) hl (fun W u x => Process1_any x id B3 W ((hS.blk 1 rfl).up u))) ?_))))))
 rintro _ w4 ⟨rfl, uw4⟩
 replace hS := hS.up uw4
 refine LW.pp (.extract (.t rfl) rfl) (LW.pp (.extract (.t rfl) rfl) (LW.E (.storeA sizeOf24 rfl (.t rfl) (.t rfl) eQ (hS.blk 2 rfl) rfl) ?_))
 intro w5 Nw5
 replace hS := hS.putB 2 rfl Nw5
 refine LW.A rfl (LW.T (CW.ret (KW.retAT rfl rfl rfl isAgg24 sizeOf24 rfl ((hS.blk 2 rfl)).agg ⟨_, rfl, ?_⟩)))
 exact ⟨rfl, hS.upd⟩
theorem Measure1_any (f : Fact) (id : Int) (B : Nat) (w : World) (hB : Blk w B #[vi id] 3) : Ret prog 217 #[.agg f.cells, .pointer (some ⟨B, 0, none⟩)] w fun r w' => r = .bool (decide (f.ID = id)) ∧ Up w w' := by
 have hW := Up.refl w
 obtain ⟨w0, rfl⟩ : ∃ w0, w0 = w := ⟨_, rfl⟩
 refine cS (n := 8) (m := 9) func217 rfl rfl rfl (CW.S (LW.rr (.boxA (.t rfl)) rfl ?_))
 rintro _ w1 ⟨B2, rfl, NB2⟩
 replace hW := hW.up NB2.up
 have hB2 := NB2.blk
 refine LW.C (LW.S (CW.region (LW.pp (.fA 1 underlying24 rfl sizeOf3 rfl) (LW.pp (.ld isAgg3 rfl (hB2.celln rfl)) (LW.pp (.ld isAgg3 rfl ((hB.up hW).celln rfl)) (LW.pp (.eql (.t rfl) (.t rfl)) (LW.A rfl (LW.T (CW.ret (KW.ret1 rfl rfl ⟨_, rfl, ?_⟩))))))))))
 exact ⟨rfl, hW⟩
theorem Measure_any (bc : Array Go.Value) (b : Base) (id : Int) (w : World) (hC : BaseC w bc b) (hl : b.Measures.length ≤ 100000) : Ret prog 168 #[.agg bc, vi id] w fun r w' => r = .tuple #[.agg ((measB b id).getD zeroF).cells, .bool (measB b id).isSome] ∧ Up w w' := by
 obtain ⟨w0, rfl⟩ : ∃ w0, w0 = w := ⟨_, rfl⟩
 have hS := Sep.start no w0
 obtain ⟨v1, h1, hr1⟩ := hC.at1
 obtain ⟨ad, cp, rfl, hE0⟩ := hr1
 refine cS (n := 12) (m := 9) func168 rfl rfl rfl (CW.S (LW.rr (.boxA (.t rfl)) rfl ?_))
 rintro _ w1 ⟨B2, rfl, NB2⟩
 replace hS := hS.addB NB2
 refine LW.rr (.box1 (.t rfl) rfl) rfl ?_
 rintro _ w2 ⟨B3, rfl, NB3⟩
 replace hS := hS.addB NB3
 refine LW.rr (.allocA zeroValue24) rfl ?_
 rintro _ w3 ⟨B4, rfl, NB4⟩
 replace hS := hS.addB NB4
 refine LW.C (LW.S (CW.region (LW.pp (.fA 1 underlying32 rfl sizeOf26 rfl) (LW.pp (.ld isAgg26 rfl ((hS.blk 0 rfl).cell h1)) (LW.pp (.makeFunc (.cons (.t rfl) .nil)) (LW.K (eC (.u rfl rfl) (en105)) rfl (first_any 217 #[.pointer (some ⟨B3, 0, none⟩)] (fun f => decide (f.ID = id)) en217 ad cp b.Measures _ (Els.up hE0 hS.upd) hl (fun W u x => Measure1_any x id B3 W ((hS.blk 1 rfl).up u))) ?_))))))
 rintro _ w4 ⟨rfl, uw4⟩
 replace hS := hS.up uw4
 refine LW.pp (.extract (.t rfl) rfl) (LW.pp (.extract (.t rfl) rfl) (LW.E (.storeA sizeOf24 rfl (.t rfl) (.t rfl) eQ (hS.blk 2 rfl) rfl) ?_))
 intro w5 Nw5
 replace hS := hS.putB 2 rfl Nw5
 refine LW.A rfl (LW.T (CW.ret (KW.retAT rfl rfl rfl isAgg24 sizeOf24 rfl ((hS.blk 2 rfl)).agg ⟨_, rfl, ?_⟩)))
 exact ⟨rfl, hS.upd⟩
end Go.Proofs.YtbbpkdlehlamlaaGreatDoor
namespace Go.Wx
def runK (f : Fact) : K2 := (f.Time, f.ID)
def runP (t c : Int) (f : Fact) : Bool := decide (f.Tool = t) && decide (f.Chamber = c)
def runsB (b : Base) (t c : Int) : List Fact := sortK runK (b.Processes.filter (runP t c))
theorem fp_yes {p : Fact → Bool} {l : List Fact} {k : Nat} {x : Fact} (h : l[k]? = some x) (hx : p x = true) : (l.take (k + 1)).filter p = (l.take k).filter p ++ [x] := by
 rw [take_succ_of h, List.filter_append, List.filter_cons, if_pos hx]; rfl
theorem fp_no {p : Fact → Bool} {l : List Fact} {k : Nat} {x : Fact} (h : l[k]? = some x) (hx : p x = false) : (l.take (k + 1)).filter p = (l.take k).filter p := by
 rw [take_succ_of h, List.filter_append, List.filter_cons, if_neg (by rw [hx]; exact Bool.false_ne_true)]; simp
theorem filt_len (p : Fact → Bool) (l : List Fact) (k : Nat) : ((l.take k).filter p).length ≤ k := Nat.le_trans (List.length_filter_le _ _) (by rw [List.length_take]; omega)
def pickI (c n : Int) : Int := (if c < 0 then IntKind.i64.wrap (-(IntKind.i64.wrap (c + 1))) else c).tmod n
end Go.Wx
namespace Go.Proofs.YtbbpkdlehlamlaaGreatDoor
open Go.Proofs.Tryz
open Go.Wx Go.RowKit
theorem Runs1_any (f : Fact) (w : World) : Ret prog 180 #[.agg f.cells] w fun r w' => r = .agg #[vi (runK f).1, vi (runK f).2] ∧ Up w w' := by
 have hW := Up.refl w
 obtain ⟨w0, rfl⟩ : ∃ w0, w0 = w := ⟨_, rfl⟩
 refine cS (n := 8) (m := 9) func180 rfl rfl rfl (CW.S (LW.rr (.boxA (.t rfl)) rfl ?_))
 rintro _ w1 ⟨B1, rfl, NB1⟩
 have eB1 := NB1.at_
 have zB1 := NB1.size
 replace hW := hW.up NB1.up
 have hB1 := NB1.blk
 refine LW.rr (.allocA zeroValue182) rfl ?_
 rintro _ w2 ⟨B2, rfl, NB2⟩
 have eB2 := NB2.at_
 replace hW := hW.up NB2.up
 replace hB1 := hB1.up NB2.up
 have hB2 := NB2.blk
 refine LW.S (CW.region (LW.pp (.fA 5 underlying24 rfl sizeOf3 rfl) (LW.pp (.ld isAgg3 rfl (hB1.celln rfl)) (LW.pp (.fA 1 underlying24 rfl sizeOf3 rfl) (LW.pp (.ld isAgg3 rfl (hB1.celln rfl)) (LW.pp (.buildArr (cs := #[vi f.Time, vi f.ID]) underlying182 zeroValue182 sizeOf3 (.cons (.t rfl) (.cons (.t rfl) .nil)) rfl) (LW.E (.storeA sizeOf182 rfl (.t rfl) (.t rfl) eQ hB2 rfl) ?_)))))))
 intro w3 Nw3
 replace hW := hW.sto Nw3.sto oQ
 replace hB1 := hB1.sto Nw3.sto oQ
 replace hB2 := Nw3.blk
 refine LW.T (CW.ret (KW.retA rfl rfl isAgg182 sizeOf182 rfl (hB2.agg) ⟨_, rfl, ?_⟩))
 exact ⟨rfl, hW⟩
theorem Runs_any (bc : Array Go.Value) (b : Base) (t c : Int) (w : World) (hC : BaseC w bc b) (hl : b.Processes.length ≤ 100000) : Ret prog 100 #[.agg bc, vi t, vi c] w fun r w' => OwnS w' 0 24 19 Fact.cells r (runsB b t c) ∧ Up w w' := by
 obtain ⟨w0, rfl⟩ : ∃ w0, w0 = w := ⟨_, rfl⟩
 have hS := Sep.start no w0
 obtain ⟨v0, h0, hr0⟩ := hC.at0
 obtain ⟨ad, cp, rfl, hE0⟩ := hr0
 refine cS (n := 35) (m := 9) func100 rfl rfl rfl (CW.S (LW.rr (.boxA (.t rfl)) rfl ?_))
 rintro _ w1 ⟨B3, rfl, NB3⟩
 replace hS := hS.addB NB3
 refine LW.C (LW.S (CW.region (LW.C (LW.S (CW.seq ?_)))))
 replace hS := hS.add (Up.refl _) (A' := aOwn 24 19 Fact.cells (.slice none 0 0) ([] : List Fact)) (OwnS.nil _ _ _ _ _) (fun i h => by cases h)
 refine CW.region (LW.pp (.fA 0 underlying32 rfl sizeOf26 rfl) (LW.pp (.ld isAgg26 rfl ((hS.blk 0 rfl).cell h0)) (LW.pp (.lenS underlying26 (.t rfl)) (LW.pp (.move (.const _)) (LW.T (CW.block (CW.loopB (σ := Nat × Go.Value) (fun s w => (s.1 ≤ b.Processes.length) ∧ (Wx.Sep no w0 w [aBlk B3 (bc) 32, aOwn 24 19 Fact.cells s.2 ((b.Processes.take s.1).filter (runP t c))])) (fun s => [(13, .eq (vi (s.1 : Int))), (7, .eq (s.2))]) ([(1, .eq _), (2, .eq _), (6, .eq _), (11, .eq _), (12, .eq _)]) (fun s => b.Processes.length - s.1) (0, .slice none 0 0) ?_ ⟨rfl, rfl, rfl, rfl, rfl, rfl, rfl, trivial⟩ ?_)))))))
 ·exact ⟨Nat.zero_le _, hS⟩
 rintro ⟨k, v⟩ w2 ⟨hk, hS⟩
 dsimp only at hk hS
 change CW _ _ _ _ _ _ _ ([(13, .eq (vi (k : Int))), (7, .eq (v))] ++ _) _
 refine CW.S (LW.pp (.lss (.t rfl) (.t rfl)) (LW.S (CW.cond (.t rfl) (fun h14 => ?_) (fun h14 => ?_))))
 ·replace h14 := dQ h14
  refine CW.skip (KW.then (CW.seq (CW.block (CW.seq ?_))))
  have hE := Els.up hE0 hS.upd
  have hfl := filt_len (runP t c) b.Processes k
  refine CW.region ?_
  obtain ⟨x, hx⟩ := getElem?_of_lt (xs := b.Processes) (i := k) oQ
  obtain ⟨Bx, ox, ax, hcx⟩ := hE _ x hx
  refine LW.pp (.indexAddr' underlying26 sizeOf24 (.t rfl) (.t rfl) oQ ax) (LW.pp (.la isAgg24 sizeOf24 rfl (hcx)) (LW.rr (.allocA zeroValue24) rfl ?_))
  rintro _ w3 ⟨B9, rfl, MB9⟩
  refine LW.E (.storeA sizeOf24 rfl (.t rfl) (.t rfl) eQ MB9.blk rfl) ?_
  intro w4 LB9
  have NB9 := MB9.set LB9
  replace hcx := hcx.up NB9.up
  replace hS := hS.addB NB9
  refine LW.S (CW.region (LW.pp (.fA 11 underlying24 rfl sizeOf3 rfl) (LW.pp (.ld isAgg3 rfl ((hS.blk 2 rfl).celln rfl)) (LW.M rfl (LW.pp (.eql (.t rfl) (.t rfl)) (LW.M rfl (LW.g rfl rfl rfl rfl rfl rfl rfl (fun hc => PEv.fA 12 underlying24 rfl sizeOf3 rfl) (LW.g rfl rfl rfl rfl rfl rfl rfl (fun hc => PEv.load isAgg3 vQ ((hS.blk 2 rfl).celln rfl)) (LW.g rfl rfl rfl rfl rfl rfl rfl (fun hc => PEv.move (.t rfl)) (LW.g rfl rfl rfl rfl rfl rfl rfl (fun hc => PEv.eql vQ vQ) (LW.pp (.pick_and (.t rfl) (fun hp => (by exact .cond rfl (by simp_all)))) (LW.T (CW.cond (.t rfl) (fun h26 => ?_) (fun h26 => ?_))))))))))))))
  ·replace h26 := dQ h26
   refine CW.region (LW.M rfl (LW.pp (.la isAgg24 sizeOf24 rfl ((hS.blk 2 rfl).agg)) (LW.rr (.buildSlice (xs := [x]) (enc := Fact.cells) (mk := fun f : Fact => .agg f.cells) underlying26 sizeOf24 zeroValue24 rfl cQ (fun _ => rfl) (fun _ => rfl) (.cons (.t rfl) .nil) rfl) rfl ?_)))
   rintro _ w5 ⟨B29, cB29, rfl, NB29, yB29, xB29⟩
   replace hS := hS.up NB29.up
   have hE29 := xB29
   refine LW.rr (.appendF (enc := Fact.cells) (bytes := 160) (i := Tryz.t24) underlying26 kQ rfl rfl rfl rfl cQ (fun _ => rfl) Fact.one (.t rfl) (.t rfl) (hS.own 1 rfl) (Sl.of_els hE29) (by simp only [List.length_cons, List.length_nil, maxLen]; omega) (by simp only [List.length_cons, List.length_nil]; omega)) rfl ?_
   intro v30 w6 Gw6
   replace hS := hS.stp 1 rfl Gw6
   refine LW.A rfl (LW.nil (KW.inBlock (KW.then (CW.region (LW.pp (.inc (.t rfl) oQ) (LW.M rfl (LW.nil (KW.round ?_))))))))
   exact ⟨(k + 1, v30), ⟨by show k + 1 ≤ _; omega, by (rw [fp_yes hx (show runP t c x = true from h26)]; exact hS.take 2)⟩, ⟨rfl, rfl, rfl, rfl, rfl, rfl, rfl, trivial⟩, by show b.Processes.length - (k + 1) < b.Processes.length - k; omega⟩
  replace h26 := dQ h26
  refine CW.skip (KW.inBlock (KW.then (CW.region (LW.pp (.inc (.t rfl) oQ) (LW.M rfl (LW.nil (KW.round ?_)))))))
  exact ⟨(k + 1, v), ⟨by show k + 1 ≤ _; omega, by (rw [fp_no hx (show runP t c x = false from h26)]; exact hS.take 2)⟩, ⟨rfl, rfl, rfl, rfl, rfl, rfl, rfl, trivial⟩, by show b.Processes.length - (k + 1) < b.Processes.length - k; omega⟩
 replace h14 := dQ h14
 refine CW.exit (KW.then_exit (KW.then_exit (KW.block_hit (KW.then (CW.S (LW.M rfl (LW.K (eC (.cons (.t rfl) (.cons (.func _) .nil)) (en66)) rfl (sorted_any 180 runK en180 (fun W x => Runs1_any x W) v _ _ (hS.own 1 rfl) (by have := filt_len (runP t c) b.Processes k; omega)) ?_)))))))
 rintro _ w7 ⟨rfl, uw7⟩
 replace hS := hS.stp 1 rfl uw7
 refine LW.S (CW.region (LW.M rfl (LW.A rfl (LW.T (CW.ret (KW.ret1 rfl rfl ⟨_, rfl, ?_⟩))))))
 have hkl : k = b.Processes.length := by omega
 rw [hkl, List.take_length] at hS
 exact ⟨hS.own 1 rfl, hS.upd⟩
end Go.Proofs.YtbbpkdlehlamlaaGreatDoor
namespace Go.Wx
def lstOf (b : Base) (j : Nat) : List Fact := [b.Processes, b.Measures, b.Swaps, b.Lots, b.Flows, b.Qualified, b.Holds, b.Releases, b.Resets, b.Targets, b.Gaps].getD j []
theorem eleven_cases {j : Nat} (h : j < 11) : j = 0 ∨ j = 1 ∨ j = 2 ∨ j = 3 ∨ j = 4 ∨ j = 5 ∨ j = 6 ∨ j = 7 ∨ j = 8 ∨ j = 9 ∨ j = 10 := by omega
theorem BaseC.at_ {w : World} {bc : Array Go.Value} {b : Base} (h : BaseC w bc b) {j : Nat} (hj : j < 11) : ∃ v, bc[j]? = some v ∧ Sl w v 19 Fact.cells (lstOf b j) := by
 obtain ⟨v0, v1, v2, v3, v4, v5, v6, v7, v8, v9, v10, e, h0, h1, h2, h3, h4, h5, h6, h7, h8, h9, h10⟩ := h
 subst e
 rcases eleven_cases hj with rfl | rfl | rfl | rfl | rfl | rfl | rfl | rfl | rfl | rfl | rfl
 · exact ⟨v0, rfl, h0⟩
 · exact ⟨v1, rfl, h1⟩
 · exact ⟨v2, rfl, h2⟩
 · exact ⟨v3, rfl, h3⟩
 · exact ⟨v4, rfl, h4⟩
 · exact ⟨v5, rfl, h5⟩
 · exact ⟨v6, rfl, h6⟩
 · exact ⟨v7, rfl, h7⟩
 · exact ⟨v8, rfl, h8⟩
 · exact ⟨v9, rfl, h9⟩
 exact ⟨v10, rfl, h10⟩
end Go.Wx
namespace Go.Proofs.YtbbpkdlehlamlaaGreatDoor
open Go.Proofs.Tryz
open Go.Wx Go.RowKit
end Go.Proofs.YtbbpkdlehlamlaaGreatDoor
namespace Go.Wx
theorem factsM_len (l : List Fact) (d : Int) : (factsM (bestL l d)).length ≤ l.length := by unfold factsM; rw [List.length_map]; exact (best_ok d l).2
theorem lst_ofB (l : List Fact) (d : Int) {j : Nat} (hj : j < 11) : lstOf (ofB l d) j = lstAt [((j + 1 : Nat) : Int)] (factsM (bestL l d)) j := by
 rcases eleven_cases hj with rfl | rfl | rfl | rfl | rfl | rfl | rfl | rfl | rfl | rfl | rfl <;> rfl
theorem lstOf_big (b : Base) {j : Nat} (hj : ¬ j < 11) : lstOf b j = [] := by
 unfold lstOf
 rw [List.getD_eq_getElem?_getD, List.getElem?_eq_none (by simp; omega)]; rfl
end Go.Wx
namespace Go.Proofs.YtbbpkdlehlamlaaGreatDoor
open Go.Proofs.Tryz
open Go.Wx Go.RowKit
end Go.Proofs.YtbbpkdlehlamlaaGreatDoor
end
section
namespace Go.Proofs.YtbbpkdlehlamlaaGreatDoor
open Go.Proofs.Tryz
open Go.Wx Go.RowKit
theorem Make_any (n d : Int) (w : World) (hn : inI n) (hd : 0 < d) (hdi : inI d) : Ret prog 57 #[vi n, vi d] w fun r w' => r = .tuple #[.agg (mkF n d).1.cells, vi (mkF n d).2] ∧ Up w w' := by
 obtain ⟨w0, rfl⟩ : ∃ w0, w0 = w := ⟨_, rfl⟩
 have hS := Sep.start no w0
 refine cS (n := 46) (m := 9) func57 rfl rfl rfl (CW.S (LW.rr (.allocA zeroValue45) rfl ?_))
 rintro _ w1 ⟨B4, rfl, NB4⟩
 replace hS := hS.addB NB4
 refine LW.C (LW.S (CW.S (LW.M rfl (LW.pp (.fa (PEv.eql (.t rfl) (.const _)) (decide_eq_false oQ)) (LW.T (CW.cond_false (.t rfl) (CW.skip (KW.then (CW.S (LW.M rfl (LW.K (eC (.o rfl) (en108)) rfl (abs_any n _ hn) ?_)))))))))))
 rintro _ w2 ⟨rfl, uw2⟩
 replace hS := hS.up uw2
 refine LW.M rfl (LW.K (eC (.o rfl) (en108)) rfl (abs_any d _ hdi) ?_)
 rintro _ w3 ⟨rfl, uw3⟩
 replace hS := hS.up uw3
 refine LW.K (eC (.u rfl rfl) (en107)) rfl (gcd_any n.natAbs d.natAbs _) ?_
 rintro _ w4 ⟨rfl, uw4⟩
 replace hS := hS.up uw4
 refine LW.A rfl (LW.S (CW.draws kQ kQ rfl rfl (HW.pp (.move (.t rfl)) (HW.c (fun a w _ ha => enter_call0 (.cons (.t rfl) .nil) (en108) a ha) rfl rfl (fun w hu => abs_any n w hn) (HW.pp (.move (.t rfl)) (HW.pp (.vl (v' := vu (n.natAbs / gcdA n d)) (PEv.quo (.t rfl) (.t rfl) (by have := gcdA_pos (n := n) hd; unfold gcdA at this; omega)) (quoU _ _ (by have h1 := hn.1; have h2 := hn.2; omega))) (HW.pp (.move (.t rfl)) (HW.c (fun a w _ ha => enter_call0 (.cons (.t rfl) .nil) (en108) a ha) rfl rfl (fun w hu => abs_any d w hdi) (HW.pp (.move (.t rfl)) (HW.pp (.vl (v' := vu (d.natAbs / gcdA n d)) (PEv.quo (.t rfl) (.t rfl) (by have := gcdA_pos (n := n) hd; unfold gcdA at this; omega)) (quoU _ _ (by have h1 := hdi.1; have h2 := hdi.2; omega))) (HW.pp (.assign (.t rfl)) (HW.pp (.assign (.t rfl)) (HW.nil ?_)))))))))))))
 intro w5 uw5
 replace hS := hS.up uw5
 refine KW.then (CW.seq (CW.S (LW.M rfl (LW.M rfl (LW.pp (.max2U (.t rfl) (.t rfl)) (LW.pp (.gtr (.t rfl) (.const _)) (LW.T (CW.cond (.t rfl) (fun h29 => ?_) (fun h29 => ?_)))))))))
 ·replace h29 := dQ h29
  have hmx := maxU_yes h29
  refine CW.S (LW.pp (.build (cs := rt0.cells) underlying45 zeroValue45 Tryz.places45 .nil rfl) (LW.E (.storeA sizeOf45 rfl (.t rfl) (.t rfl) (Rt.one _) (hS.blk 0 rfl) rfl) ?_))
  intro w6 Nw6
  replace hS := hS.putB 0 rfl (show Set_ _ w6 _ (rt0.cells) _ from Nw6)
  refine LW.C (LW.T (CW.ret (KW.then_ret (KW.retAT rfl rfl rfl isAgg45 sizeOf45 rfl ((hS.blk 0 rfl)).agg ⟨_, rfl, ?_⟩))))
  exact ⟨by rw [mkF_no hmx], hS.upd⟩
 replace h29 := dQ h29
 have hmx := maxU_no h29
 refine CW.skip (KW.then (CW.S (LW.M rfl (LW.pp (.vl (v' := vi ((n.natAbs / gcdA n d : Nat) : Int)) (PEv.conv (k' := .i64) (by rw [underlying178]; rfl) underlying3 (.t rfl)) (convU hmx.1)) (LW.M rfl (LW.pp (.vl (v' := vi ((d.natAbs / gcdA n d : Nat) : Int)) (PEv.conv (k' := .i64) (by rw [underlying178]; rfl) underlying3 (.t rfl)) (convU hmx.2)) (LW.pp (.build (cs := (Rt.mk ((n.natAbs / gcdA n d : Nat) : Int) ((d.natAbs / gcdA n d : Nat) : Int)).cells) underlying45 zeroValue45 Tryz.places45 (.cons (.t rfl) (.cons (.t rfl) .nil)) rfl) (LW.rr (.allocA zeroValue45) rfl ?_))))))))
 rintro _ w7 ⟨B9, rfl, MB9⟩
 refine LW.E (.storeA sizeOf45 rfl (.t rfl) (.t rfl) (Rt.one _) MB9.blk rfl) ?_
 intro w8 LB9
 have NB9 := MB9.set LB9
 replace hS := hS.addB NB9
 refine LW.S (CW.S (LW.M rfl (LW.pp (.lss (.t rfl) (.const _)) (LW.M rfl (LW.pp (.fa (PEv.lss (.t rfl) (.const _)) (decide_eq_false oQ)) (LW.pp (.neqB underlying4 (.t rfl) (.t rfl)) (LW.T (CW.cond (.t rfl) (fun h40 => ?_) (fun h40 => ?_)))))))))
 ·have hng : n < 0 := by revert h40; by_cases h : n < 0 <;> simp [h]
  refine CW.region (LW.pp (.fA 0 underlying45 rfl sizeOf3 rfl) (LW.pp (.ld isAgg3 rfl ((hS.blk 1 rfl).celln rfl)) (LW.pp (.vl (v' := vi (-((n.natAbs / gcdA n d : Nat) : Int))) (PEv.neg underlying3 (.t rfl)) (congrArg (Go.Value.int .i64) (negW hmx.1))) (LW.pp (.fA 0 underlying45 rfl sizeOf3 rfl) (LW.E (.store sizeOf3 (.t rfl) (.t rfl) rfl (hS.blk 1 rfl) (zQ rfl)) ?_)))))
  intro w9 Nw9
  replace hS := hS.putB 1 rfl (show Set_ _ w9 _ ((Rt.mk (-((n.natAbs / gcdA n d : Nat) : Int)) ((d.natAbs / gcdA n d : Nat) : Int)).cells) _ from Nw9)
  refine LW.S (CW.region (LW.pp (.la isAgg45 sizeOf45 rfl ((hS.blk 1 rfl).agg)) (LW.E (.storeA sizeOf45 rfl (.t rfl) (.t rfl) (Rt.one _) (hS.blk 0 rfl) rfl) ?_)))
  intro w10 Nw10
  replace hS := hS.putB 0 rfl Nw10
  refine LW.C (LW.T (CW.ret (KW.retAT rfl rfl rfl isAgg45 sizeOf45 rfl ((hS.blk 0 rfl)).agg ⟨_, rfl, ?_⟩)))
  exact ⟨by rw [mkF_neg hmx hng], hS.upd⟩
 have hng : ¬ n < 0 := by revert h40; by_cases h : n < 0 <;> simp [h]
 refine CW.skip (KW.then (CW.S (LW.pp (.la isAgg45 sizeOf45 rfl ((hS.blk 1 rfl).agg)) (LW.E (.storeA sizeOf45 rfl (.t rfl) (.t rfl) (Rt.one _) (hS.blk 0 rfl) rfl) ?_))))
 intro w11 Nw11
 replace hS := hS.putB 0 rfl Nw11
 refine LW.C (LW.T (CW.ret (KW.retAT rfl rfl rfl isAgg45 sizeOf45 rfl ((hS.blk 0 rfl)).agg ⟨_, rfl, ?_⟩)))
 exact ⟨by rw [mkF_pos hmx hng], hS.upd⟩
end Go.Proofs.YtbbpkdlehlamlaaGreatDoor
end
section
namespace Go.Proofs.YtbbpkdlehlamlaaGreatDoor
open Go.Proofs.Tryz
open Go.Wx Go.RowKit
theorem validR_any (a : Rt) (w : World) (h : a.ok) : Ret prog 174 #[.agg a.cells] w fun r w' => r = .bool true ∧ Up w w' := by
 have hW := Up.refl w
 refine cS (n := 27) (m := 9) func174 rfl rfl rfl (CW.S (LW.rr (.boxA (.t rfl)) rfl ?_))
 rintro _ w1 ⟨B1, rfl, NB1⟩
 replace hW := hW.up NB1.up
 have hB1 := NB1.blk
 refine LW.C (LW.S (CW.draws kQ kQ rfl rfl (HW.pp (.fA 1 underlying45 rfl sizeOf3 rfl) (HW.pp (.ld isAgg3 rfl (hB1.celln rfl)) (HW.pp (.tr (PEv.gtr (.t rfl) (.const _)) (decide_eq_true h.pos)) (HW.pp (.move (.t rfl)) (HW.yy (.fA 1 underlying45 rfl sizeOf3 rfl) (HW.yy (.ld isAgg3 rfl (hB1.celln rfl)) (HW.yy (.tr (PEv.leq (.t rfl) (.const _)) (decide_eq_true h.den)) (HW.pp (.pick_and (.t rfl) (fun hp => (by exact .tmp rfl))) (HW.pp (.move (.t rfl)) (HW.yy (.fA 0 underlying45 rfl sizeOf3 rfl) (HW.yy (.ld isAgg3 rfl (hB1.celln rfl)) (HW.yc rfl rfl rfl rfl rfl (fun a w _ ha => enter_call0 (.cons (.t rfl) .nil) (en108) a ha) rfl (fun w hu => abs_any a.n w h.nI) (HW.yy (.tr (PEv.leq (.t rfl) (.const _)) (decide_eq_true (by have := h.num; omega))) (HW.pp (.pick_and (.t rfl) (fun hp => (by exact .tmp rfl))) (HW.pp (.move (.t rfl)) (HW.yy (.fA 0 underlying45 rfl sizeOf3 rfl) (HW.yy (.ld isAgg3 rfl (hB1.celln rfl)) (HW.yc rfl rfl rfl rfl rfl (fun a w _ ha => enter_call0 (.cons (.t rfl) .nil) (en108) a ha) rfl (fun w hu => abs_any a.n w h.nI) (HW.yy (.fA 1 underlying45 rfl sizeOf3 rfl) (HW.yy (.ld isAgg3 rfl (hB1.celln rfl)) (HW.yc rfl rfl rfl rfl rfl (fun a w _ ha => enter_call0 (.cons (.t rfl) .nil) (en108) a ha) rfl (fun w hu => abs_any a.d w h.dI) (HW.yc rfl rfl rfl rfl rfl (fun a w _ ha => enter_call0 (.cons (.t rfl) (.cons (.t rfl) .nil)) (en107) a ha) rfl (fun w hu => gcd_any a.n.natAbs a.d.natAbs w) (HW.yy (.tr (PEv.eql (.t rfl) (.const _)) (decide_eq_true (by have := h.co; unfold gcdA at this; omega))) (HW.pp (.pick_and (.t rfl) (fun hp => (by exact .tmp rfl))) (HW.pp (.assign (.t rfl)) (HW.nil ?_))))))))))))))))))))))))))))
 intro w2 uw2
 replace hW := hW.up uw2
 replace hB1 := hB1.up uw2
 refine KW.then (CW.ret (KW.ret1 rfl rfl ⟨_, rfl, ?_⟩))
 exact ⟨rfl, hW⟩
theorem ofR_any (a : Rt) (w : World) (h : a.ok) : Ret prog 172 #[.agg a.cells] w fun r w' => r = .agg a.cells ∧ Up w w' := by
 obtain ⟨w0, rfl⟩ : ∃ w0, w0 = w := ⟨_, rfl⟩
 have hS := Sep.start no w0
 refine cS (n := 12) (m := 9) func172 rfl rfl rfl (CW.S (LW.rr (.boxA (.t rfl)) rfl ?_))
 rintro _ w1 ⟨B1, rfl, NB1⟩
 replace hS := hS.addB NB1
 refine LW.rr (.allocA zeroValue216) rfl ?_
 rintro _ w2 ⟨B2, rfl, NB2⟩
 replace hS := hS.addB NB2
 refine LW.S (CW.S (LW.pp (.la isAgg45 sizeOf45 rfl ((hS.blk 0 rfl).agg)) (LW.K (eC (.o rfl) (en174)) rfl (validR_any a _ h) ?_)))
 rintro _ w3 ⟨rfl, uw3⟩
 replace hS := hS.up uw3
 refine LW.pp (.not (.t rfl)) (LW.T (CW.cond_false (.t rfl) (CW.skip (KW.then (CW.S (LW.pp (.fA 0 underlying45 rfl sizeOf3 rfl) (LW.pp (.ld isAgg3 rfl ((hS.blk 0 rfl).celln rfl)) (LW.pp (.fA 1 underlying45 rfl sizeOf3 rfl) (LW.pp (.ld isAgg3 rfl ((hS.blk 0 rfl).celln rfl)) (LW.pp (.build (cs := a.cells) underlying216 zeroValue216 Tryz.places216 (.cons (.t rfl) (.cons (.t rfl) .nil)) rfl) (LW.E (.storeA sizeOf216 rfl (.t rfl) (.t rfl) (Rt.one _) (hS.blk 1 rfl) rfl) ?_)))))))))))
 intro w4 Nw4
 replace hS := hS.putB 1 rfl Nw4
 refine LW.T (CW.ret (KW.retA rfl rfl isAgg216 sizeOf216 rfl ((hS.blk 1 rfl).agg) ⟨_, rfl, ?_⟩))
 exact ⟨rfl, hS.upd⟩
theorem fit_any (cf : Nat) (lb : Array Go.Value) (hen : ∀ args w, (callFunc cf args).run prog w = .ok (.enter cf args) w) (n d : Int) (w : World) (hn : inI n) (hd : 0 < d) (hdi : inI d) (hp : ∀ W, Up w W → Ret prog cf (#[] ++ lb) W fun r W' => r = .tuple #[vi n, vi d] ∧ Up W W') : Ret prog 170 #[.func (.func cf) #[] lb] w fun r w' => r = .tuple #[.agg (mkF n d).1.cells, vi (mkF n d).2] ∧ Up w w' := by
 obtain ⟨w0, rfl⟩ : ∃ w0, w0 = w := ⟨_, rfl⟩
 have hS := Sep.start no w0
 refine Calls_startD (n := 12) (m := 9) func170 rfl rfl rfl (CW.S (LW.rr (.allocA zeroValue45) rfl ?_))
 rintro _ w1 ⟨B2, rfl, NB2⟩
 replace hS := hS.addB NB2
 refine LW.rr (.alloc1 zeroValue49 rfl) rfl ?_
 rintro _ w2 ⟨B3, rfl, NB3⟩
 replace hS := hS.addB NB3
 refine LW.S (CW.region (LW.pp (.makeFunc (.cons (.t rfl) (.cons (.t rfl) .nil))) (LW.deferC (.t rfl) (LW.S (CW.region (LW.M rfl (LW.K (enter_call (.t rfl) .nil (hen)) rfl (hp _ hS.upd) ?_)))))))
 rintro _ w3 ⟨rfl, uw3⟩
 replace hS := hS.up uw3
 refine LW.pp (.extract (.t rfl) rfl) (LW.pp (.extract (.t rfl) rfl) (LW.K (eC (.u rfl rfl) (en57)) rfl (Make_any n d _ hn hd hdi) ?_))
 rintro _ w4 ⟨rfl, uw4⟩
 replace hS := hS.up uw4
 refine LW.pp (.extract (.t rfl) rfl) (LW.pp (.extract (.t rfl) rfl) (LW.E (.storeA sizeOf45 rfl (.t rfl) (.t rfl) (Rt.one _) (hS.blk 0 rfl) rfl) ?_))
 intro w5 Nw5
 replace hS := hS.putB 0 rfl (show Set_ _ w5 _ ((mkF n d).1.cells) _ from Nw5)
 refine LW.E (.store sizeOf49 (.t rfl) (.t rfl) rfl (hS.blk 1 rfl) (zQ rfl)) ?_
 intro w6 Nw6
 replace hS := hS.putB 1 rfl Nw6
 refine LW.T (CW.ret (KW.door (f := 218) (args := #[.pointer (some ⟨B2, 0, none⟩), .pointer (some ⟨B3, 0, none⟩)]) (by exact (en218 _ _)) rfl (fitD_any B2 B3 _) (fun w9 u9 => ?_)))
 replace hS := hS.up u9
 refine KW.retAB rfl rfl rfl isAgg45 sizeOf45 rfl (hS.blk 0 rfl).agg isAgg49 ((hS.blk 1 rfl).celln rfl) ⟨_, rfl, ?_⟩
 exact ⟨rfl, hS.upd⟩
theorem add1_any (Ba Bb : Nat) (a b : Rt) (w : World) (hBa : Blk w Ba a.cells 45) (hBb : Blk w Bb b.cells 45) (ha : a.ok) (hb : b.ok) : Ret prog 171 #[.pointer (some ⟨Ba, 0, none⟩), .pointer (some ⟨Bb, 0, none⟩)] w fun r w' => r = .tuple #[vi (addN a b), vi (a.d * b.d)] ∧ Up w w' := by
 have hW := Up.refl w
 refine cS (n := 26) (m := 9) func171 rfl rfl rfl (CW.S (LW.C (LW.C (LW.S (CW.vars 8 [⟨4, 6, 1, 4, 7⟩, ⟨5, 7, 3, 5, 9⟩] #[vi 0, vi 0] [.eq (.agg (Rt.cells a)), .eq (.agg (Rt.cells a)), .eq (.agg (Rt.cells b)), .eq (.agg (Rt.cells b)), .pred fun v _ => ∃ B, v = .pointer (some ⟨B, 0, none⟩), .pred fun v _ => ∃ B, v = .pointer (some ⟨B, 0, none⟩), .eq undef, .eq undef] [4, 5] zeroValue216 sizeOf216 kQ rfl kQ kQ kQ kQ kQ kQ kQ kQ cQ kQ kQ ?_ ?_ ⟨PhT.eq _ _, PhT.eq _ _, PhT.eq _ _, PhT.eq _ _, PhT.pred fun _ _ _ h _ => h, PhT.pred fun _ _ _ h _ => h, PhT.eq _ _, PhT.eq _ _, trivial⟩ ?_ ?_ ?_ ?_ ?_)))))
 ·intro v hv; simp only [List.mem_cons, List.mem_nil_iff, or_false] at hv; rcases hv with rfl | rfl <;> exact ⟨_, _, _, rfl⟩
 ·intro v hv; simp only [List.mem_cons, List.mem_nil_iff, or_false] at hv; rcases hv with rfl | rfl <;> exact ⟨_, _, _, rfl⟩
 ·intro v hv; simp only [List.mem_cons, List.mem_nil_iff, or_false] at hv; rcases hv with rfl | rfl <;> (intro o ho; cases ho; rfl)
 ·intro v hv; simp only [List.mem_cons, List.mem_nil_iff, or_false] at hv; rcases hv with rfl | rfl
  ·exact fun v W h => ⟨_, h, rfl, (rt_size a).2⟩
  exact fun v W h => ⟨_, h, rfl, (rt_size b).2⟩
 ·intro v hv; simp only [List.mem_cons, List.mem_nil_iff, or_false] at hv; rcases hv with rfl | rfl <;> exact fun B W => ⟨B, rfl⟩
 ·intro W hK0
  have hK := (Up.drew w).keepT.trans hK0
  have hBaW := Blk.keepT hBa (T := 216) cQ hK
  have hBbW := Blk.keepT hBb (T := 216) cQ hK
  refine aC (.inr ⟨rfl, TU.p (.la isAgg45 sizeOf45 rfl (hBaW.agg)) rfl⟩) (aC (.inr ⟨rfl, TU.c (eC (.o rfl) (en172)) (ofR_any a _ ha) sQ⟩) (aC (.inr ⟨rfl, TU.p (.la isAgg45 sizeOf45 rfl (hBbW.agg)) rfl⟩) (aC (.inr ⟨rfl, TU.c (eC (.o rfl) (en172)) (ofR_any b _ hb) sQ⟩) (aC (.inl (by simp)) (aC (.inl (by simp)) (aC (.inl (by simp)) (aC (.inl (by simp)) ?_)))))))
  exact allL.nil
 intro wT g hU0 hbl hpw hg
 have hU := (Up.drew w).trans hU0
 obtain ⟨B4, e4, z4, hB4⟩ := hbl ⟨4, 6, 1, 4, 7⟩ (by simp)
 obtain ⟨B5, e5, z5, hB5⟩ := hbl ⟨5, 7, 3, 5, 9⟩ (by simp)
 have e7 : g 7 = .agg (Rt.cells a) := hg 1 _ 7 cQ rfl rfl
 have e9 : g 9 = .agg (Rt.cells b) := hg 3 _ 9 cQ rfl rfl
 replace e4 : g 4 = .pointer (some ⟨B4, 0, none⟩) := e4
 replace e5 : g 5 = .pointer (some ⟨B5, 0, none⟩) := e5
 change LW _ _ _ _ _ _ _ _ ((4, .eq (g 4)) :: (5, .eq (g 5)) :: _) _
 rw [e4, e5]
 rw [e7] at hB4
 rw [e9] at hB5
 replace hB4 : Blk wT B4 a.cells 216 := hB4
 replace hB5 : Blk wT B5 b.cells 216 := hB5
 replace hW := hW.trans hU
 refine LW.S (CW.draws kQ kQ rfl rfl (HW.pp (.fA 0 underlying216 rfl sizeOf3 rfl) (HW.pp (.ld isAgg3 rfl (hB4.celln rfl)) (HW.pp (.fA 1 underlying216 rfl sizeOf3 rfl) (HW.pp (.ld isAgg3 rfl (hB5.celln rfl)) (HW.pp (.mul_w (.t rfl) (.t rfl)) (HW.pp (.fA 0 underlying216 rfl sizeOf3 rfl) (HW.pp (.ld isAgg3 rfl (hB5.celln rfl)) (HW.pp (.fA 1 underlying216 rfl sizeOf3 rfl) (HW.pp (.ld isAgg3 rfl (hB4.celln rfl)) (HW.pp (.mul_w (.t rfl) (.t rfl)) (HW.pp (.add_w (.t rfl) (.t rfl)) (HW.pp (.fA 1 underlying216 rfl sizeOf3 rfl) (HW.pp (.ld isAgg3 rfl (hB4.celln rfl)) (HW.pp (.fA 1 underlying216 rfl sizeOf3 rfl) (HW.pp (.ld isAgg3 rfl (hB5.celln rfl)) (HW.pp (.mul_w (.t rfl) (.t rfl)) (HW.pp (.assign (.t rfl)) (HW.pp (.assign (.t rfl)) (HW.nil ?_))))))))))))))))))))
 intro w1 uw1
 replace hW := hW.up uw1
 replace hB4 := hB4.up uw1
 replace hB5 := hB5.up uw1
 refine KW.then (CW.ret (KW.ret2 rfl rfl rfl ⟨_, rfl, ?_⟩))
 exact ⟨by rw [addW ha hb, ddW ha hb], hW⟩
end Go.Proofs.YtbbpkdlehlamlaaGreatDoor
end
section
namespace Go.Wx
theorem Rt.ok.neg {a : Rt} (h : a.ok) : (Rt.mk (-a.n) a.d).ok := by
 refine ⟨h.pos, h.den, by show (-a.n).natAbs ≤ _; rw [Int.natAbs_neg]; exact h.num, ?_⟩
 show gcdA (-a.n) a.d = 1
 unfold gcdA
 rw [Int.natAbs_neg]; exact h.co
theorem negN {a : Rt} (h : a.ok) : IntKind.i64.wrap (-a.n) = -a.n := by have h1 := h.num; exact wrap_i64_in oQ oQ
theorem floor_neg {n d : Int} (hd : 0 < d) : -((d - 1 - n) / d) = n / d := by
 have h1 := Int.mul_ediv_add_emod n d
 have h2 := Int.emod_nonneg n (show d ≠ 0 by omega)
 have h3 := Int.emod_lt_of_pos n hd
 generalize n / d = q at *
 generalize n % d = r at *
 have e : d - 1 - n = (d - 1 - r) + d * (-q) := by rw [← h1, Int.mul_neg]; omega
 rw [e, Int.add_mul_ediv_left _ _ (show d ≠ 0 by omega), Int.ediv_eq_zero_of_lt oQ (by omega)]
 omega
theorem ediv_abs {m d : Int} (hd : 0 < d) (hm : 0 ≤ m) : 0 ≤ m / d ∧ m / d ≤ m := ⟨Int.ediv_nonneg hm oQ, Int.ediv_le_self d hm⟩
def flB (n d : Int) : Prop := -4000000000000000000 ≤ n ∧ n ≤ 4000000000000000000 ∧ 0 < d ∧ d ≤ 4000000000000000000
theorem floorN {n d : Int} (h : flB n d) (hn : n < 0) : IntKind.i64.wrap (-(IntKind.i64.wrap ((IntKind.i64.wrap (IntKind.i64.wrap (d - 1) - n)).tdiv d))) = n / d := by
 obtain ⟨h1, h2, h3, h4⟩ := h
 rw [wrap_i64_in (i := d - 1) oQ oQ, wrap_i64_in (i := d - 1 - n) oQ oQ, Int.tdiv_eq_ediv_of_nonneg (by omega)]
 have hb := ediv_abs h3 (show 0 ≤ d - 1 - n by omega)
 rw [wrap_i64_in (i := (d - 1 - n) / d) oQ oQ, wrap_i64_in oQ oQ, floor_neg h3]
theorem floorP {n d : Int} (h : flB n d) (hn : 0 ≤ n) : IntKind.i64.wrap (n.tdiv d) = n / d := by
 obtain ⟨h1, h2, h3, h4⟩ := h
 rw [Int.tdiv_eq_ediv_of_nonneg hn]
 have hb := ediv_abs h3 hn
 exact wrap_i64_in oQ oQ
def rndN (a : Rt) (d : Int) : Int := (2 * a.n * d + a.d) / (2 * a.d)
def rndM (a : Rt) (d : Int) : Int := 2 * a.n * d + a.d
theorem mulK {x k : Int} (hx : x.natAbs ≤ 1000000000) (hk : 0 ≤ k ∧ k ≤ 1000000) : -2000000000000000 ≤ 2 * x * k ∧ 2 * x * k ≤ 2000000000000000 := by
 have h : (2 * x * k).natAbs ≤ 2 * 1000000000 * 1000000 := by
   rw [Int.natAbs_mul, Int.natAbs_mul]
   exact Nat.mul_le_mul (Nat.mul_le_mul (Nat.le_refl _) hx) oQ
 omega
theorem rndW {a : Rt} (ha : a.ok) {d : Int} (hd : 1 ≤ d ∧ d ≤ 1000000) : IntKind.i64.wrap (IntKind.i64.wrap (IntKind.i64.wrap (2 * a.n) * d) + a.d) = rndM a d ∧ IntKind.i64.wrap (2 * a.d) = 2 * a.d ∧ flB (rndM a d) (2 * a.d) := by
 have h0 := ha.num
 have h1 := ha.pos
 have h2 := ha.den
 have h3 := mulK h0 (k := d) oQ
 refine ⟨?_, wrap_i64_in oQ oQ, ?_⟩
 · rw [wrap_i64_in (i := 2 * a.n) oQ oQ, wrap_i64_in (i := 2 * a.n * d) oQ oQ, wrap_i64_in oQ (by omega)]; rfl
 unfold flB rndM; omega
theorem rnd_in {a : Rt} (ha : a.ok) {d : Int} (hd : 1 ≤ d ∧ d ≤ 1000000) : inI (rndN a d) := by
 have h0 := ha.num
 have h1 := ha.pos
 have h2 := ha.den
 have h3 := mulK h0 (k := d) oQ
 show inI ((2 * a.n * d + a.d) / (2 * a.d))
 generalize 2 * a.n * d = m at *
 have hl : -(3000000000000000 : Int) ≤ (m + a.d) / (2 * a.d) := by
   refine Int.le_ediv_of_mul_le oQ ?_
   have : -(3000000000000000 : Int) * (2 * a.d) ≤ -(3000000000000000 : Int) * 2 := by
     refine Int.mul_le_mul_of_nonpos_left oQ oQ
   omega
 have hu : (m + a.d) / (2 * a.d) < 4000000000000000 := by
   refine Int.ediv_lt_of_lt_mul oQ ?_
   have : (4000000000000000 : Int) * 2 ≤ 4000000000000000 * (2 * a.d) := Int.mul_le_mul_of_nonneg_left oQ oQ
   omega
 exact ⟨by omega, by omega⟩
def clampF (a lo hi : Rt) : Rt := if cmpI (a.n * lo.d) (lo.n * a.d) < 0 then lo else if 0 < cmpI (a.n * hi.d) (hi.n * a.d) then hi else a
theorem mulW {a b : Rt} (ha : a.ok) (hb : b.ok) : IntKind.i64.wrap (a.n * b.d) = a.n * b.d := by
 have h := mulB ha.num hb.d'
 exact wrap_i64_in oQ oQ
end Go.Wx
namespace Go.Proofs.YtbbpkdlehlamlaaGreatDoor
open Go.Proofs.Tryz
open Go.Wx Go.RowKit
theorem Add_any (a b : Rt) (w : World) (ha : a.ok) (hb : b.ok) : Ret prog 90 #[.agg a.cells, .agg b.cells] w fun r w' => r = .tuple #[.agg (mkF (addN a b) (a.d * b.d)).1.cells, vi (mkF (addN a b) (a.d * b.d)).2] ∧ Up w w' := by
 obtain ⟨w0, rfl⟩ : ∃ w0, w0 = w := ⟨_, rfl⟩
 have hS := Sep.start no w0
 refine cS (n := 10) (m := 9) func90 rfl rfl rfl (CW.S (LW.rr (.boxA (.t rfl)) rfl ?_))
 rintro _ w1 ⟨B2, rfl, NB2⟩
 replace hS := hS.addB NB2
 refine LW.rr (.boxA (.t rfl)) rfl ?_
 rintro _ w2 ⟨B3, rfl, NB3⟩
 replace hS := hS.addB NB3
 refine LW.rr (.allocA zeroValue45) rfl ?_
 rintro _ w3 ⟨B4, rfl, NB4⟩
 replace hS := hS.addB NB4
 refine LW.C (LW.S (CW.region (LW.pp (.makeFunc (.cons (.t rfl) (.cons (.t rfl) .nil))) (LW.K (eC (.o rfl) (en170)) rfl (fit_any 171 #[.pointer (some ⟨B2, 0, none⟩), .pointer (some ⟨B3, 0, none⟩)] en171 (addN a b) (a.d * b.d) _ (by have h := addN_in ha hb; exact ⟨by omega, by omega⟩) ((dd_in ha hb).1) (by have h := dd_in ha hb; exact ⟨by omega, by omega⟩) (fun W u => add1_any B2 B3 a b W ((hS.blk 0 rfl).up u) ((hS.blk 1 rfl).up u) ha hb)) ?_))))
 rintro _ w4 ⟨rfl, uw4⟩
 replace hS := hS.up uw4
 refine LW.pp (.extract (.t rfl) rfl) (LW.pp (.extract (.t rfl) rfl) (LW.E (.storeA sizeOf45 rfl (.t rfl) (.t rfl) (Rt.one _) (hS.blk 2 rfl) rfl) ?_))
 intro w5 Nw5
 replace hS := hS.putB 2 rfl (show Set_ _ w5 _ ((mkF (addN a b) (a.d * b.d)).1.cells) _ from Nw5)
 refine LW.A rfl (LW.T (CW.ret (KW.retAT rfl rfl rfl isAgg45 sizeOf45 rfl ((hS.blk 2 rfl)).agg ⟨_, rfl, ?_⟩)))
 exact ⟨rfl, hS.upd⟩
theorem Sub_any (a b : Rt) (w : World) (ha : a.ok) (hb : b.ok) : Ret prog 91 #[.agg a.cells, .agg b.cells] w fun r w' => r = .tuple #[.agg (mkF (addN a (Rt.mk (-b.n) b.d)) (a.d * b.d)).1.cells, vi (mkF (addN a (Rt.mk (-b.n) b.d)) (a.d * b.d)).2] ∧ Up w w' := by
 obtain ⟨w0, rfl⟩ : ∃ w0, w0 = w := ⟨_, rfl⟩
 have hS := Sep.start no w0
 refine cS (n := 16) (m := 9) func91 rfl rfl rfl (CW.S (LW.rr (.boxA (.t rfl)) rfl ?_))
 rintro _ w1 ⟨B2, rfl, NB2⟩
 replace hS := hS.addB NB2
 refine LW.rr (.boxA (.t rfl)) rfl ?_
 rintro _ w2 ⟨B3, rfl, NB3⟩
 replace hS := hS.addB NB3
 refine LW.rr (.allocA zeroValue45) rfl ?_
 rintro _ w3 ⟨B4, rfl, NB4⟩
 replace hS := hS.addB NB4
 refine LW.C (LW.S (CW.region (LW.pp (.la isAgg45 sizeOf45 rfl ((hS.blk 0 rfl).agg)) (LW.pp (.fA 0 underlying45 rfl sizeOf3 rfl) (LW.pp (.ld isAgg3 rfl ((hS.blk 1 rfl).celln rfl)) (LW.pp (.vl (v' := vi (-b.n)) (PEv.neg underlying3 (.t rfl)) (congrArg (Go.Value.int .i64) (negN hb))) (LW.pp (.fA 1 underlying45 rfl sizeOf3 rfl) (LW.pp (.ld isAgg3 rfl ((hS.blk 1 rfl).celln rfl)) (LW.pp (.build (cs := (Rt.mk (-b.n) b.d).cells) underlying45 zeroValue45 Tryz.places45 (.cons (.t rfl) (.cons (.t rfl) .nil)) rfl) (LW.K (eC (.u rfl rfl) (en90)) rfl (Add_any a (Rt.mk (-b.n) b.d) _ ha hb.neg) ?_))))))))))
 rintro _ w4 ⟨rfl, uw4⟩
 replace hS := hS.up uw4
 refine LW.pp (.extract (.t rfl) rfl) (LW.pp (.extract (.t rfl) rfl) (LW.E (.storeA sizeOf45 rfl (.t rfl) (.t rfl) (Rt.one _) (hS.blk 2 rfl) rfl) ?_))
 intro w5 Nw5
 replace hS := hS.putB 2 rfl (show Set_ _ w5 _ ((mkF (addN a (Rt.mk (-b.n) b.d)) (a.d * b.d)).1.cells) _ from Nw5)
 refine LW.A rfl (LW.T (CW.ret (KW.retAT rfl rfl rfl isAgg45 sizeOf45 rfl ((hS.blk 2 rfl)).agg ⟨_, rfl, ?_⟩)))
 exact ⟨rfl, hS.upd⟩
theorem floor_any (n d : Int) (w : World) (h : flB n d) : Ret prog 177 #[vi n, vi d] w fun r w' => r = vi (n / d) ∧ Up w w' := by
 have hW := Up.refl w
 refine cS (n := 17) (m := 9) func177 rfl rfl rfl (CW.S (LW.C (LW.S (CW.S (LW.M rfl (LW.pp (.lss (.t rfl) (.const _)) (LW.T (CW.cond (.t rfl) (fun h6 => ?_) (fun h6 => ?_)))))))))
 ·replace h6 := dQ h6
  have hng := h6
  refine CW.S (LW.M rfl (LW.pp (.sub_w (.t rfl) (.const _)) (LW.M rfl (LW.pp (.sub_w (.t rfl) (.t rfl)) (LW.M rfl (LW.pp (.quo (.t rfl) (.t rfl) (by have := h.2.2.1; omega)) (LW.pp (.neg underlying3 (.t rfl)) (LW.A rfl (LW.T (CW.ret (KW.then_ret (KW.ret1 rfl rfl ⟨_, rfl, ?_⟩))))))))))))
  exact ⟨congrArg vi (floorN h hng), hW⟩
 replace h6 := dQ h6
 have hng : 0 ≤ n := by omega
 refine CW.skip (KW.then (CW.S (LW.M rfl (LW.M rfl (LW.pp (.quo (.t rfl) (.t rfl) (by have := h.2.2.1; omega)) (LW.A rfl (LW.T (CW.ret (KW.ret1 rfl rfl ⟨_, rfl, ?_⟩)))))))))
 exact ⟨congrArg vi (floorP h hng), hW⟩
theorem round1_any (Ba Bd : Nat) (a : Rt) (d : Int) (w : World) (hBa : Blk w Ba a.cells 45) (hBd : Blk w Bd #[vi d] 3) (ha : a.ok) (hd : 1 ≤ d ∧ d ≤ 1000000) : Ret prog 176 #[.pointer (some ⟨Ba, 0, none⟩), .pointer (some ⟨Bd, 0, none⟩)] w fun r w' => r = .tuple #[vi (rndN a d), vi d] ∧ Up w w' := by
 have hW := Up.refl w
 refine cS (n := 20) (m := 9) func176 rfl rfl rfl (CW.S (LW.C (LW.C (LW.S (CW.region (LW.pp (.la isAgg45 sizeOf45 rfl (hBa.agg)) (LW.K (eC (.o rfl) (en172)) rfl (ofR_any a _ ha) ?_)))))))
 rintro _ w1 ⟨rfl, uw1⟩
 replace hBa := hBa.up uw1
 replace hBd := hBd.up uw1
 replace hW := hW.up uw1
 refine LW.rr (.allocA zeroValue216) rfl ?_
 rintro _ w2 ⟨B4, rfl, MB4⟩
 refine LW.E (.storeA sizeOf216 rfl (.t rfl) (.t rfl) (Rt.one _) MB4.blk rfl) ?_
 intro w3 LB4
 have NB4 := MB4.set LB4
 replace hBa := hBa.up NB4.up
 replace hBd := hBd.up NB4.up
 replace hW := hW.up NB4.up
 have hB4 := NB4.blk
 refine LW.S (CW.draws kQ kQ rfl rfl (HW.pp (.fA 0 underlying216 rfl sizeOf3 rfl) (HW.pp (.ld isAgg3 rfl (hB4.celln rfl)) (HW.pp (.mul_w (.const _) (.t rfl)) (HW.pp (.ld isAgg3 rfl (hBd.celln rfl)) (HW.pp (.mul_w (.t rfl) (.t rfl)) (HW.pp (.fA 1 underlying216 rfl sizeOf3 rfl) (HW.pp (.ld isAgg3 rfl (hB4.celln rfl)) (HW.pp (.vl (v' := vi (rndM a d)) (PEv.add_w (.t rfl) (.t rfl)) (congrArg (Go.Value.int .i64) (rndW ha hd).1)) (HW.pp (.fA 1 underlying216 rfl sizeOf3 rfl) (HW.pp (.ld isAgg3 rfl (hB4.celln rfl)) (HW.pp (.vl (v' := vi (2 * a.d)) (PEv.mul_w (.const _) (.t rfl)) (congrArg (Go.Value.int .i64) (rndW ha hd).2.1)) (HW.c (fun a w _ ha => enter_call0 (.cons (.t rfl) (.cons (.t rfl) .nil)) (en177) a ha) rfl rfl (fun w hu => floor_any (rndM a d) (2 * a.d) w (rndW ha hd).2.2) (HW.pp (.ld isAgg3 rfl (hBd.celln rfl)) (HW.pp (.assign (.t rfl)) (HW.pp (.assign (.t rfl)) (HW.nil ?_)))))))))))))))))
 intro w4 uw4
 replace hBa := hBa.up uw4
 replace hBd := hBd.up uw4
 replace hW := hW.up uw4
 replace hB4 := hB4.up uw4
 refine KW.then (CW.ret (KW.ret2 rfl rfl rfl ⟨_, rfl, ?_⟩))
 exact ⟨rfl, hW⟩
theorem Round_any (a : Rt) (d : Int) (w : World) (ha : a.ok) (hd : 1 ≤ d ∧ d ≤ 1000000) : Ret prog 94 #[.agg a.cells, vi d] w fun r w' => r = .tuple #[.agg (mkF (rndN a d) d).1.cells, vi (mkF (rndN a d) d).2] ∧ Up w w' := by
 obtain ⟨w0, rfl⟩ : ∃ w0, w0 = w := ⟨_, rfl⟩
 have hS := Sep.start no w0
 refine cS (n := 17) (m := 9) func94 rfl rfl rfl (CW.S (LW.rr (.boxA (.t rfl)) rfl ?_))
 rintro _ w1 ⟨B2, rfl, NB2⟩
 replace hS := hS.addB NB2
 refine LW.rr (.box1 (.t rfl) rfl) rfl ?_
 rintro _ w2 ⟨B3, rfl, NB3⟩
 replace hS := hS.addB NB3
 refine LW.rr (.allocA zeroValue45) rfl ?_
 rintro _ w3 ⟨B4, rfl, NB4⟩
 replace hS := hS.addB NB4
 refine LW.C (LW.S (CW.S (LW.pp (.ld isAgg3 rfl ((hS.blk 1 rfl).celln rfl)) (LW.pp (.fa (PEv.lss (.t rfl) (.const _)) (decide_eq_false oQ)) (LW.M rfl (LW.Y (LW.pp (.ld isAgg3 rfl ((hS.blk 1 rfl).celln rfl)) (LW.Y (LW.pp (.fa (PEv.gtr (.t rfl) (.const _)) (decide_eq_false oQ)) (LW.pp (.pick_or (.t rfl) (fun hp => (by exact .tmp rfl))) (LW.T (CW.cond_false (.t rfl) (CW.skip (KW.then (CW.S (LW.pp (.makeFunc (.cons (.t rfl) (.cons (.t rfl) .nil))) (LW.K (eC (.o rfl) (en170)) rfl (fit_any 176 #[.pointer (some ⟨B2, 0, none⟩), .pointer (some ⟨B3, 0, none⟩)] en176 (rndN a d) (d) _ (rnd_in ha hd) oQ (⟨by omega, by omega⟩) (fun W u => round1_any B2 B3 a d W ((hS.blk 0 rfl).up u) ((hS.blk 1 rfl).up u) ha hd)) ?_)))))))))))))))))
 rintro _ w4 ⟨rfl, uw4⟩
 replace hS := hS.up uw4
 refine LW.pp (.extract (.t rfl) rfl) (LW.pp (.extract (.t rfl) rfl) (LW.E (.storeA sizeOf45 rfl (.t rfl) (.t rfl) (Rt.one _) (hS.blk 2 rfl) rfl) ?_))
 intro w5 Nw5
 replace hS := hS.putB 2 rfl (show Set_ _ w5 _ ((mkF (rndN a d) d).1.cells) _ from Nw5)
 refine LW.A rfl (LW.T (CW.ret (KW.retAT rfl rfl rfl isAgg45 sizeOf45 rfl ((hS.blk 2 rfl)).agg ⟨_, rfl, ?_⟩)))
 exact ⟨rfl, hS.upd⟩
theorem CompareR_any (a b : Rt) (w : World) (ha : a.ok) (hb : b.ok) : Ret prog 175 #[.agg a.cells, .agg b.cells] w fun r w' => r = vi (cmpI (a.n * b.d) (b.n * a.d)) ∧ Up w w' := by
 obtain ⟨w0, rfl⟩ : ∃ w0, w0 = w := ⟨_, rfl⟩
 have hS := Sep.start no w0
 refine cS (n := 24) (m := 9) func175 rfl rfl rfl (CW.S (LW.rr (.boxA (.t rfl)) rfl ?_))
 rintro _ w1 ⟨B2, rfl, NB2⟩
 replace hS := hS.addB NB2
 refine LW.rr (.boxA (.t rfl)) rfl ?_
 rintro _ w2 ⟨B3, rfl, NB3⟩
 replace hS := hS.addB NB3
 refine LW.C (LW.S (CW.S (LW.pp (.la isAgg45 sizeOf45 rfl ((hS.blk 0 rfl).agg)) (LW.K (eC (.o rfl) (en174)) rfl (validR_any a _ ha) ?_))))
 rintro _ w3 ⟨rfl, uw3⟩
 replace hS := hS.up uw3
 refine LW.pp (.not (.t rfl)) (LW.M rfl (LW.Y (LW.pp (.la isAgg45 sizeOf45 rfl ((hS.blk 1 rfl).agg)) (LW.Y (LW.K (eC (.o rfl) (en174)) rfl (validR_any b _ hb) ?_)))))
 rintro _ w4 ⟨rfl, uw4⟩
 replace hS := hS.up uw4
 refine LW.Y (LW.pp (.not (.t rfl)) (LW.pp (.pick_or (.t rfl) (fun hp => (by exact .tmp rfl))) (LW.T (CW.cond_false (.t rfl) (CW.skip (KW.then (CW.S (LW.pp (.fA 0 underlying45 rfl sizeOf3 rfl) (LW.pp (.ld isAgg3 rfl ((hS.blk 0 rfl).celln rfl)) (LW.pp (.fA 1 underlying45 rfl sizeOf3 rfl) (LW.pp (.ld isAgg3 rfl ((hS.blk 1 rfl).celln rfl)) (LW.pp (.mul_w (.t rfl) (.t rfl)) (LW.pp (.fA 0 underlying45 rfl sizeOf3 rfl) (LW.pp (.ld isAgg3 rfl ((hS.blk 1 rfl).celln rfl)) (LW.pp (.fA 1 underlying45 rfl sizeOf3 rfl) (LW.pp (.ld isAgg3 rfl ((hS.blk 0 rfl).celln rfl)) (LW.pp (.mul_w (.t rfl) (.t rfl)) (LW.K (eC (.u rfl rfl) (en138)) rfl (cmpInt_any _ _ _) ?_))))))))))))))))))
 rintro _ w5 ⟨rfl, uw5⟩
 replace hS := hS.up uw5
 refine LW.A rfl (LW.T (CW.ret (KW.ret1 rfl rfl ⟨_, rfl, ?_⟩)))
 exact ⟨by rw [mulW ha hb, mulW hb ha], hS.upd⟩
theorem Clamp_any (a lo hi : Rt) (w : World) (ha : a.ok) (hlo : lo.ok) (hhi : hi.ok) : Ret prog 93 #[.agg a.cells, .agg lo.cells, .agg hi.cells] w fun r w' => r = .agg (clampF a lo hi).cells ∧ Up w w' := by
 obtain ⟨w0, rfl⟩ : ∃ w0, w0 = w := ⟨_, rfl⟩
 have hS := Sep.start no w0
 refine cS (n := 31) (m := 9) func93 rfl rfl rfl (CW.S (LW.rr (.boxA (.t rfl)) rfl ?_))
 rintro _ w1 ⟨B3, rfl, NB3⟩
 replace hS := hS.addB NB3
 refine LW.rr (.boxA (.t rfl)) rfl ?_
 rintro _ w2 ⟨B4, rfl, NB4⟩
 replace hS := hS.addB NB4
 refine LW.rr (.boxA (.t rfl)) rfl ?_
 rintro _ w3 ⟨B5, rfl, NB5⟩
 replace hS := hS.addB NB5
 refine LW.rr (.allocA zeroValue45) rfl ?_
 rintro _ w4 ⟨B6, rfl, NB6⟩
 replace hS := hS.addB NB6
 refine LW.S (CW.block (CW.seq (CW.S (LW.pp (.la isAgg45 sizeOf45 rfl ((hS.blk 0 rfl).agg)) (LW.K (eC (.o rfl) (en174)) rfl (validR_any a _ ha) ?_)))))
 rintro _ w5 ⟨rfl, uw5⟩
 replace hS := hS.up uw5
 refine LW.pp (.not (.t rfl)) (LW.A rfl (LW.T (CW.cond_false (.t rfl) (CW.S (LW.pp (.la isAgg45 sizeOf45 rfl ((hS.blk 1 rfl).agg)) (LW.K (eC (.o rfl) (en174)) rfl (validR_any lo _ hlo) ?_))))))
 rintro _ w6 ⟨rfl, uw6⟩
 replace hS := hS.up uw6
 refine LW.pp (.not (.t rfl)) (LW.A rfl (LW.T (CW.cond_false (.t rfl) (CW.region (LW.pp (.la isAgg45 sizeOf45 rfl ((hS.blk 2 rfl).agg)) (LW.K (eC (.o rfl) (en174)) rfl (validR_any hi _ hhi) ?_))))))
 rintro _ w7 ⟨rfl, uw7⟩
 replace hS := hS.up uw7
 refine LW.pp (.not (.t rfl)) (LW.A rfl (LW.T (CW.cond_false (.t rfl) (CW.S (LW.pp (.la isAgg45 sizeOf45 rfl ((hS.blk 0 rfl).agg)) (LW.pp (.la isAgg45 sizeOf45 rfl ((hS.blk 1 rfl).agg)) (LW.K (eC (.u rfl rfl) (en175)) rfl (CompareR_any a lo _ ha hlo) ?_)))))))
 rintro _ w8 ⟨rfl, uw8⟩
 replace hS := hS.up uw8
 refine LW.pp (.lss (.t rfl) (.const _)) (LW.A rfl (LW.T (CW.cond (.t rfl) (fun h18 => ?_) (fun h18 => ?_))))
 ·replace h18 := dQ h18
  have h1 := h18
  refine CW.S (LW.pp (.la isAgg45 sizeOf45 rfl ((hS.blk 1 rfl).agg)) (LW.E (.storeA sizeOf45 rfl (.t rfl) (.t rfl) (Rt.one _) (hS.blk 3 rfl) rfl) ?_))
  intro w9 Nw9
  replace hS := hS.putB 3 rfl Nw9
  refine LW.T (CW.ret (KW.block_ret (KW.then_ret (KW.retA rfl rfl isAgg45 sizeOf45 rfl ((hS.blk 3 rfl).agg) ⟨_, rfl, ?_⟩))))
  exact ⟨by unfold clampF; rw [if_pos h1], hS.upd⟩
 replace h18 := dQ h18
 have h1 := h18
 refine CW.S (LW.pp (.la isAgg45 sizeOf45 rfl ((hS.blk 0 rfl).agg)) (LW.pp (.la isAgg45 sizeOf45 rfl ((hS.blk 2 rfl).agg)) (LW.K (eC (.u rfl rfl) (en175)) rfl (CompareR_any a hi _ ha hhi) ?_)))
 rintro _ w10 ⟨rfl, uw10⟩
 replace hS := hS.up uw10
 refine LW.pp (.gtr (.t rfl) (.const _)) (LW.A rfl (LW.T (CW.cond (.t rfl) (fun h24 => ?_) (fun h24 => ?_))))
 ·replace h24 := dQ h24
  have h2 := h24
  refine CW.S (LW.pp (.la isAgg45 sizeOf45 rfl ((hS.blk 2 rfl).agg)) (LW.E (.storeA sizeOf45 rfl (.t rfl) (.t rfl) (Rt.one _) (hS.blk 3 rfl) rfl) ?_))
  intro w11 Nw11
  replace hS := hS.putB 3 rfl Nw11
  refine LW.T (CW.ret (KW.block_ret (KW.then_ret (KW.retA rfl rfl isAgg45 sizeOf45 rfl ((hS.blk 3 rfl).agg) ⟨_, rfl, ?_⟩))))
  exact ⟨by unfold clampF; rw [if_neg h1, if_pos h2], hS.upd⟩
 replace h24 := dQ h24
 have h2 := h24
 refine CW.skip (KW.inBlock (KW.then (CW.S (LW.pp (.la isAgg45 sizeOf45 rfl ((hS.blk 0 rfl).agg)) (LW.E (.storeA sizeOf45 rfl (.t rfl) (.t rfl) (Rt.one _) (hS.blk 3 rfl) rfl) ?_)))))
 intro w12 Nw12
 replace hS := hS.putB 3 rfl Nw12
 refine LW.T (CW.ret (KW.retA rfl rfl isAgg45 sizeOf45 rfl ((hS.blk 3 rfl).agg) ⟨_, rfl, ?_⟩))
 exact ⟨by unfold clampF; rw [if_neg h1, if_neg h2], hS.upd⟩
end Go.Proofs.YtbbpkdlehlamlaaGreatDoor
end
section
namespace Go.Wx
theorem OwnS.els {α : Type} {enc : α → Array Go.Value} {b k n cp : Nat} {e : TypeId} {w : World} {ad : Option Addr} {xs : List α} (h : OwnS w b e k enc (.slice ad n cp) xs) (hk : ∀ x, (enc x).size = k) : Els w ad k enc xs := by
 obtain ⟨ad', cp', e, hE⟩ := h.sl hk
 injection e with e1
 rw [e1]; exact hE
theorem eqb_refl (f : Fact) : Fact.eqb f f = true := by simp [Fact.eqb]
theorem valid_day {f : Fact} (h : validB f = true) : f.Day ≤ 100000 := by
 have := valid_pre h
 simp only [preB, Bool.or_eq_false_iff, decide_eq_false_iff_not] at this
 omega
theorem best_known (l : List Fact) (d : Int) : bestL (l.filter fun f => decide (f.Day ≤ d)) 100000 = bestL l d := by
 have key : ∀ (l : List Fact) (a : FMap), (l.filter fun f => decide (f.Day ≤ d)).foldl (bestStep 100000) a = l.foldl (bestStep d) a := by
   intro l
   induction l with
   | nil => exact fun _ => rfl
   | cons x l ih =>
     intro a
     by_cases hx : x.Day ≤ d
     · rw [List.filter_cons, if_pos (decide_eq_true hx), List.foldl_cons, List.foldl_cons, ih]
       congr 1
       by_cases hk : keyB x = []
       · rw [best_skip (.inl hk), best_skip (.inl hk)]
       have hv := valid_day (keyB_valid hk)
       unfold bestStep
       rw [if_neg (fun h => h.elim hk oQ), if_neg (fun h => h.elim hk oQ)]
     rw [List.filter_cons, if_neg (by rw [decide_eq_false hx]; exact Bool.false_ne_true), ih, List.foldl_cons, best_skip (.inr oQ)]
 exact key l []
end Go.Wx
namespace Go.Proofs.YtbbpkdlehlamlaaGreatDoor
open Go.Proofs.Tryz
open Go.Wx Go.RowKit
end Go.Proofs.YtbbpkdlehlamlaaGreatDoor
namespace Go.Wx
theorem key_kind {f g : Fact} (hf : validB f = true) (hg : validB g = true) (h : keyB f = keyB g) : f.Kind = g.Kind := by
 have kf := valid_kind hf
 have kg := valid_kind hg
 unfold keyB keyL at h
 rw [if_pos hf, if_pos hg] at h
 exact (encI_cut (r := encIs (valsOf (keyFOf f.Kind) f)) (s := encIs (valsOf (keyFOf g.Kind) g)) (a := f.Kind) (b := g.Kind) ⟨by omega, by omega⟩ ⟨by omega, by omega⟩ h).1
end Go.Wx
namespace Go.Proofs.YtbbpkdlehlamlaaGreatDoor
open Go.Proofs.Tryz
open Go.Wx Go.RowKit
end Go.Proofs.YtbbpkdlehlamlaaGreatDoor
namespace Go.Wx
theorem cb_swap : ∀ (a b : List UInt8), Go.Lib.compareBytes b a = - Go.Lib.compareBytes a b
 | [], [] => rfl
 | [], _ :: _ => rfl
 | _ :: _, [] => rfl
 | x :: a, y :: b => by
   unfold Go.Lib.compareBytes
   by_cases h1 : x < y
   · have h2 : ¬ y < x := by rw [UInt8.lt_iff_toNat_lt] at *; omega
     rw [if_pos h1, if_neg h2, if_pos h1]; rfl
   by_cases h2 : y < x
   · rw [if_pos h2, if_neg h1, if_pos h2]
   rw [if_neg h2, if_neg h1, if_neg h1, if_neg h2]; exact cb_swap a b
theorem cb_zero : ∀ {a b : List UInt8}, Go.Lib.compareBytes a b = 0 → a = b
 | [], [], _ => rfl
 | [], _ :: _, h => by simp [Go.Lib.compareBytes] at h
 | _ :: _, [], h => by simp [Go.Lib.compareBytes] at h
 | x :: a, y :: b, h => by
   unfold Go.Lib.compareBytes at h
   by_cases h1 : x < y
   · rw [if_pos h1] at h; cases h
   by_cases h2 : y < x
   · rw [if_neg h1, if_pos h2] at h; cases h
   rw [if_neg h1, if_neg h2] at h
   rw [cb_zero h, show x = y from UInt8.toNat_inj.1 (by rw [UInt8.lt_iff_toNat_lt] at h1 h2; omega)]
theorem cb_refl (a : List UInt8) : Go.Lib.compareBytes a a = 0 := by have := cb_swap a a; omega
theorem cb_trans : ∀ {a b c : List UInt8}, 0 < Go.Lib.compareBytes a b → 0 < Go.Lib.compareBytes b c → 0 < Go.Lib.compareBytes a c
 | [], [], _, h, _ => by simp [Go.Lib.compareBytes] at h
 | [], _ :: _, _, h, _ => by simp [Go.Lib.compareBytes] at h
 | _ :: _, [], [], _, h => by simp [Go.Lib.compareBytes] at h
 | _ :: _, [], _ :: _, _, h => by simp [Go.Lib.compareBytes] at h
 | _ :: _, _ :: _, [], _, _ => by simp [Go.Lib.compareBytes]
 | x :: a, y :: b, z :: c, h, k => by
   unfold Go.Lib.compareBytes at h k ⊢
   by_cases h1 : x < y
   · rw [if_pos h1] at h; omega
   by_cases k1 : y < z
   · rw [if_pos k1] at k; omega
   rw [if_neg h1] at h
   rw [if_neg k1] at k
   have e1 : ¬ x < z := by rw [UInt8.lt_iff_toNat_lt] at *; omega
   rw [if_neg e1]
   by_cases h2 : y < x
   · rw [if_pos (show z < x by rw [UInt8.lt_iff_toNat_lt] at *; omega)]; decide
   by_cases k2 : z < y
   · rw [if_pos (show z < x by rw [UInt8.lt_iff_toNat_lt] at *; omega)]; decide
   rw [if_neg h2] at h
   rw [if_neg k2] at k
   rw [if_neg (show ¬ z < x by rw [UInt8.lt_iff_toNat_lt] at *; omega)]
   exact cb_trans h k
theorem prev_iff {a b : Fact} : prevB a b = true ↔ validB a = true ∧ validB b = true ∧ keyB a = keyB b ∧ (b.Version < a.Version ∨ (a.Version = b.Version ∧ 0 < Go.Lib.compareBytes (encB a) (encB b))) := by
 unfold prevB
 simp only [Bool.and_eq_true, Bool.or_eq_true, decide_eq_true_eq, beq_iff_eq, and_assoc]
theorem prev_irrefl (a : Fact) : prevB a a = false := by
 rw [Bool.eq_false_iff]
 intro h
 have := (prev_iff.1 h).2.2.2
 rw [cb_refl] at this
 omega
theorem prev_trans {a b c : Fact} (h : prevB a b = true) (k : prevB b c = true) : prevB a c = true := by
 obtain ⟨h1, h2, h3, h4⟩ := prev_iff.1 h
 obtain ⟨k1, k2, k3, k4⟩ := prev_iff.1 k
 refine prev_iff.2 ⟨h1, k2, h3.trans k3, ?_⟩
 rcases h4 with h4 | ⟨h4, h5⟩ <;> rcases k4 with k4 | ⟨k4, k5⟩
 · exact .inl oQ
 · exact .inl oQ
 · exact .inl oQ
 exact .inr ⟨by omega, cb_trans h5 k5⟩
theorem get_set {f : Fact} {o o' : Nat} {n : Int} (h : okOff o = true) (h' : okOff o' = true) : getF (setF f o n) o' = if o = o' then n else getF f o' := by
 rcases okOff_cases h with rfl | rfl | rfl | rfl | rfl | rfl | rfl | rfl | rfl | rfl | rfl | rfl | rfl | rfl <;> rcases okOff_cases h' with rfl | rfl | rfl | rfl | rfl | rfl | rfl | rfl | rfl | rfl | rfl | rfl | rfl | rfl <;> rfl
theorem set_rest {f : Fact} {o : Nat} {n : Int} (h : okOff o = true) : (setF f o n).Text = f.Text := by
 rcases okOff_cases h with rfl | rfl | rfl | rfl | rfl | rfl | rfl | rfl | rfl | rfl | rfl | rfl | rfl | rfl <;> rfl
theorem runF_get : ∀ {fs : List Fld} {f g : Fact}, (∀ x ∈ fs, okOff x.off = true ∧ inW x.lo ∧ inW x.hi) → runF fs f = some g → (∀ o, okOff o = true → getF g o ≠ 0 → getF f o = getF g o) ∧ (∀ o, okOff o = true → (∀ x ∈ fs, x.off ≠ o) → getF f o = getF g o) ∧ g.Text = f.Text ∧ ∀ x ∈ fs, inW (getF f x.off)
 | [], f, g, _, h => by cases h; exact ⟨fun _ _ _ => rfl, fun _ _ _ => rfl, rfl, fun x hx => by cases hx⟩
 | x :: fs, f, g, hf, h => by
   unfold runF at h
   split at h
   · cases h
   rename_i hx
   have ok := hf x List.mem_cons_self
   obtain ⟨h1, h2, h3, h4⟩ := runF_get (fun y hy => hf y (List.mem_cons_of_mem _ hy)) h
   refine ⟨fun o ho hne => ?_, fun o ho hn => ?_, h3.trans (set_rest ok.1), fun y hy => ?_⟩
   · have := h1 o ho hne
     rw [get_set ok.1 ho] at this
     by_cases e : x.off = o
     · rw [if_pos e] at this; exact absurd this.symm hne
     rwa [if_neg e] at this
   · have := h2 o ho (fun y hy => hn y (List.mem_cons_of_mem _ hy))
     rwa [get_set ok.1 ho, if_neg (hn x List.mem_cons_self)] at this
   have hb : inW (getF f x.off) := by
     have := ok.2.1.1
     have := ok.2.2.2
     exact ⟨by omega, by omega⟩
   rcases List.mem_cons.1 hy with rfl | hy
   · exact hb
   have := h4 y hy
   rw [get_set ok.1 (hf y (List.mem_cons_of_mem _ hy)).1] at this
   by_cases e : x.off = y.off
   · rw [← e]; exact hb
   rwa [if_neg e] at this
theorem fields_lim (k : Int) : ∀ x ∈ fieldsOf k, okOff x.off = true ∧ inW x.lo ∧ inW x.hi := by
 intro x hx
 have h : ∀ l ∈ shapeF, ∀ y ∈ l, (okOff y.off && decide (-4611686018427387903 ≤ y.lo) && decide (y.lo ≤ 4611686018427387903) && decide (-4611686018427387903 ≤ y.hi) && decide (y.hi ≤ 4611686018427387903)) = true := by decide
 unfold fieldsOf at hx
 rw [List.getD_eq_getElem?_getD] at hx
 cases hl : shapeF[k.toNat]? with
 | none => rw [hl] at hx; simp at hx
 | some l =>
   rw [hl] at hx
   have := h l (List.mem_of_getElem? hl) x (by simpa using hx)
   simp only [Bool.and_eq_true, decide_eq_true_eq] at this
   exact ⟨this.1.1.1.1, ⟨this.1.1.1.2, this.1.1.2⟩, ⟨this.1.2, this.2⟩⟩
theorem eqb_get {f g : Fact} (h : Fact.eqb f g = true) : (∀ o, okOff o = true → getF f o = getF g o) ∧ f.Text.toList = g.Text.toList := by
 simp only [Fact.eqb, Bool.and_eq_true, beq_iff_eq] at h
 obtain ⟨_, h1, _, _, _, h5, h6, h7, h8, h9, h10, h11, h12, h13, h14, h15, h16, h17, h18⟩ := h
 refine ⟨fun o ho => ?_, h18⟩
 rcases okOff_cases ho with rfl | rfl | rfl | rfl | rfl | rfl | rfl | rfl | rfl | rfl | rfl | rfl | rfl | rfl
 · exact h1
 · exact h5
 · exact h6
 · exact h7
 · exact h8
 · exact h9
 · exact h10
 · exact h11
 · exact h12
 · exact h13
 · exact h14
 · exact h15
 · exact h16
 exact h17
theorem get_fact0 (k v d : Int) (g : Bool) {o : Nat} (h : okOff o = true) : getF (fact0 k v d g) o = 0 := by
 rcases okOff_cases h with rfl | rfl | rfl | rfl | rfl | rfl | rfl | rfl | rfl | rfl | rfl | rfl | rfl | rfl <;> rfl
theorem get_text (g : Fact) (t : ByteArray) {o : Nat} (h : okOff o = true) : getF { g with Text := t } o = getF g o := by
 rcases okOff_cases h with rfl | rfl | rfl | rfl | rfl | rfl | rfl | rfl | rfl | rfl | rfl | rfl | rfl | rfl <;> rfl
theorem valid_parts {f : Fact} (h : validB f = true) : (∀ o, okOff o = true → (∀ x ∈ fieldsOf f.Kind, x.off ≠ o) → getF f o = 0) ∧ (∀ x ∈ fieldsOf f.Kind, inW (getF f x.off)) ∧ (textOf f.Kind = false → f.Text.toList = []) := by
 unfold validB at h
 rw [Bool.and_eq_true, Bool.and_eq_true] at h
 have h3 := h.2.2
 cases hr : runF (fieldsOf f.Kind) f with
 | none => rw [hr] at h3; cases h3
 | some g =>
   rw [hr] at h3
   obtain ⟨r1, r2, r3, r4⟩ := runF_get (fields_lim f.Kind) hr
   obtain ⟨e1, e2⟩ := eqb_get h3
   have z : ∀ o, okOff o = true → getF g o = 0 := fun o ho => by
     have := e1 o ho
     rw [get_fact0 _ _ _ _ ho] at this
     split at this
     · rwa [get_text _ _ ho] at this
     exact this
   refine ⟨fun o ho hn => (r2 o ho hn).trans (z o ho), r4, fun ht => ?_⟩
   rw [ht] at e2
   rw [← r3]
   rw [if_neg Bool.false_ne_true] at e2
   rw [e2, ByteArray.toList_eq]; rfl
theorem text_inj {a b : ByteArray} (h : a.toList = b.toList) : a = b := by
 rw [ByteArray.toList_eq, ByteArray.toList_eq] at h
 cases a; cases b
 exact congrArg ByteArray.mk (Array.toList_inj.1 h)
theorem fact_ext {a b : Fact} (hk : a.Kind = b.Kind) (hv : a.Version = b.Version) (hd : a.Day = b.Day) (hg : a.Gone = b.Gone) (ht : a.Text = b.Text) (h : ∀ o, okOff o = true → getF a o = getF b o) : a = b := by
 have h1 := h 1 rfl
 have h5 := h 5 rfl
 have h6 := h 6 rfl
 have h7 := h 7 rfl
 have h8 := h 8 rfl
 have h9 := h 9 rfl
 have h10 := h 10 rfl
 have h11 := h 11 rfl
 have h12 := h 12 rfl
 have h13 := h 13 rfl
 have h14 := h 14 rfl
 have h15 := h 15 rfl
 have h16 := h 16 rfl
 have h17 := h 17 rfl
 cases a; cases b
 rw [Fact.mk.injEq]
 exact ⟨hk, h1, hv, hd, hg, h5, h6, h7, h8, h9, h10, h11, h12, h13, h14, h15, h16, h17, ht⟩
theorem encB_inj {a b : Fact} (ha : validB a = true) (hb : validB b = true) (hk : a.Kind = b.Kind) (h : encB a = encB b) : a = b := by
 obtain ⟨a1, a2, a3⟩ := valid_parts ha
 obtain ⟨b1, b2, b3⟩ := valid_parts hb
 have pa := valid_pre ha
 have pb := valid_pre hb
 have ka := valid_kind ha
 have kb := valid_kind hb
 simp only [preB, Bool.or_eq_false_iff, decide_eq_false_iff_not] at pa pb
 have win : ∀ (f : Fact), (1 ≤ f.Kind ∧ f.Kind ≤ 11) → (¬ f.Version < 1 ∧ ¬ 1000000 < f.Version ∧ ¬ f.Day < 0 ∧ ¬ 100000 < f.Day) → (∀ x ∈ fieldsOf f.Kind, inW (getF f x.off)) → ∀ x ∈ encL f, inW x := fun f k p q x hx => by
   unfold encL at hx
   rcases List.mem_append.1 hx with hx | hx
   · simp only [List.mem_cons, List.not_mem_nil, or_false] at hx
     rcases hx with rfl | rfl | rfl | rfl
     · exact ⟨by omega, by omega⟩
     · exact ⟨by omega, by omega⟩
     · exact ⟨by omega, by omega⟩
     unfold flagI; split <;> exact ⟨by omega, by omega⟩
   obtain ⟨y, hy, rfl⟩ := List.mem_map.1 hx
   exact q y hy
 unfold encB at h
 obtain ⟨e1, e2⟩ := encIs_cut (win a ka ⟨pa.1.1.1.1, pa.1.1.1.2, pa.1.1.2, pa.1.2⟩ a2) (win b kb ⟨pb.1.1.1.1, pb.1.1.1.2, pb.1.1.2, pb.1.2⟩ b2) (by unfold encL; simp [valsOf, hk]) h
 unfold encL at e1
 simp only [List.cons_append, List.nil_append, List.cons.injEq] at e1
 obtain ⟨_, e3, e4, e5, e6⟩ := e1
 refine fact_ext hk e3 e4 ?_ ?_ fun o ho => ?_
 · revert e5
   unfold flagI
   cases a.Gone <;> cases b.Gone <;> simp
 · by_cases ht : textOf a.Kind = true
   · rw [if_pos ht, if_pos (by rw [← hk]; exact ht)] at e2
     unfold encT at e2
     have := (encI_cut (inW_nat (by simp; omega)) (inW_nat (by simp; omega)) e2).2
     cases ea : a.Text; cases eb : b.Text
     rw [ea, eb] at this
     exact congrArg ByteArray.mk (Array.toList_inj.1 this)
   have ht := Bool.eq_false_iff.2 ht
   exact text_inj ((a3 ht).trans (b3 (hk ▸ ht)).symm)
 by_cases hx : ∃ x ∈ fieldsOf a.Kind, x.off = o
 · obtain ⟨x, hx, rfl⟩ := hx
   unfold valsOf at e6
   rw [← hk] at e6
   exact List.map_inj_left.1 e6 x hx
 have hn : ∀ x ∈ fieldsOf a.Kind, x.off ≠ o := fun x h1 h2 => hx ⟨x, h1, h2⟩
 rw [a1 o ho hn, b1 o ho (hk ▸ hn)]
theorem prev_total {a b : Fact} (ha : validB a = true) (hb : validB b = true) (hk : keyB a = keyB b) (h1 : prevB a b = false) (h2 : prevB b a = false) : a = b := by
 rw [Bool.eq_false_iff] at h1 h2
 have c1 : ¬ (b.Version < a.Version ∨ (a.Version = b.Version ∧ 0 < Go.Lib.compareBytes (encB a) (encB b))) := fun c => h1 (prev_iff.2 ⟨ha, hb, hk, c⟩)
 have c2 : ¬ (a.Version < b.Version ∨ (b.Version = a.Version ∧ 0 < Go.Lib.compareBytes (encB b) (encB a))) := fun c => h2 (prev_iff.2 ⟨hb, ha, hk.symm, c⟩)
 rw [cb_swap (encB a) (encB b)] at c2
 exact encB_inj ha hb (key_kind ha hb hk) (cb_zero oQ)
def eff (l : List Fact) (d : Int) (f : Fact) : Prop := f ∈ l ∧ keyB f ≠ [] ∧ f.Day ≤ d ∧ ∀ g ∈ l, g.Day ≤ d → prevB g f = false
structure EInv (l : List Fact) (d : Int) (m : FMap) : Prop where
 ok : MOk m
 top : ∀ p ∈ m, eff l d p.2
 all : ∀ f ∈ l, keyB f ≠ [] → f.Day ≤ d → keyB f ∈ m.map (·.1)
theorem prevE_key {a b : Fact} (h : prevB a b = true) : keyB a = keyB b := (prev_iff.1 h).2.2.1
theorem mem_fset {m : FMap} {c : List UInt8} {x : Fact} {p : List UInt8 × Fact} (h : p ∈ fset m c x) : p = (c, x) ∨ (p ∈ m ∧ p.1 ≠ c) := by
 unfold fset at h
 split at h
 · obtain ⟨q, hq, e⟩ := List.mem_map.1 h
   split at e
   · exact .inl e.symm
   rename_i hc; subst e; exact .inr ⟨hq, hc⟩
 rename_i hn
 rcases List.mem_append.1 h with h | h
 · exact .inr ⟨h, fun e => hn (List.mem_map.2 ⟨p, h, e⟩)⟩
 exact .inl (List.mem_singleton.1 h)
theorem fset_has {m : FMap} {c : List UInt8} {x : Fact} {k : List UInt8} (h : k ∈ m.map (·.1) ∨ k = c) : k ∈ (fset m c x).map (·.1) := by
 rw [fset_keys]
 split
 · rename_i hc; rcases h with h | rfl
   · exact h
   exact hc
 rcases h with h | rfl
 · exact List.mem_append_left _ h
 simp
theorem eff_snoc {l : List Fact} {d : Int} {x f : Fact} (h : eff l d f) (hx : x.Day ≤ d → prevB x f = false) : eff (l ++ [x]) d f := by
 refine ⟨List.mem_append_left _ h.1, h.2.1, h.2.2.1, fun g hg hd => ?_⟩
 rcases List.mem_append.1 hg with hg | hg
 · exact h.2.2.2 g hg hd
 cases List.mem_singleton.1 hg; exact hx hd
theorem EInv.step {l : List Fact} {d : Int} {m : FMap} (h : EInv l d m) (x : Fact) : EInv (l ++ [x]) d (bestStep d m x) := by
 by_cases hc : keyB x = [] ∨ d < x.Day
 · rw [best_skip hc]
   refine ⟨h.ok, fun p hp => eff_snoc (h.top p hp) fun hd => ?_, fun f hf hk hd => ?_⟩
   · rw [Bool.eq_false_iff]
     intro e
     rcases hc with hc | hc
     · exact (h.top p hp).2.1 ((prevE_key e).symm.trans hc)
     omega
   rcases List.mem_append.1 hf with hf | hf
   · exact h.all f hf hk hd
   cases List.mem_singleton.1 hf
   rcases hc with hc | hc
   · exact absurd hc hk
   omega
 have hk : keyB x ≠ [] := fun e => hc (.inl e)
 have hd : x.Day ≤ d := by
   by_cases hd : x.Day ≤ d
   · exact hd
   exact absurd (.inr oQ) hc
 have others : ∀ p ∈ m, p.1 ≠ keyB x → eff (l ++ [x]) d p.2 := fun p hp hne => eff_snoc (h.top p hp) fun _ => by
   rw [Bool.eq_false_iff]
   intro e
   exact hne ((h.ok p hp).1.trans (prevE_key e).symm)
 have put : (∀ g ∈ l, g.Day ≤ d → prevB g x = false) → EInv (l ++ [x]) d (fset m (keyB x) x) := fun hx => by
   refine ⟨h.ok.set (keyB_valid hk), fun p hp => ?_, fun f hf hkf hdf => ?_⟩
   · rcases mem_fset hp with rfl | ⟨h1, h2⟩
     · refine ⟨by simp, hk, hd, fun g hg hdg => ?_⟩
       rcases List.mem_append.1 hg with hg | hg
       · exact hx g hg hdg
       cases List.mem_singleton.1 hg; exact prev_irrefl x
     exact others p h1 h2
   refine fset_has ?_
   rcases List.mem_append.1 hf with hf | hf
   · exact .inl (h.all f hf hkf hdf)
   cases List.mem_singleton.1 hf; exact .inr rfl
 cases hg : fget m (keyB x) with
 | none =>
   rw [best_new hc hg]
   refine put fun g hgl hgd => ?_
   rw [Bool.eq_false_iff]
   intro e
   have e1 := prevE_key e
   have := h.all g hgl (by rw [e1]; exact hk) hgd
   rw [e1] at this
   have hno := fget_none hg
   rw [encM_keys] at hno
   exact hno this
 | some old =>
   have hmem : ∃ p ∈ m, p.1 = keyB x ∧ p.2 = old := by
     unfold fget at hg
     rw [Option.map_eq_some_iff] at hg
     obtain ⟨p, hp, e⟩ := hg
     have h2 : (p.1 == keyB x) = true := List.find?_some (p := fun p : List UInt8 × Fact => p.1 == keyB x) hp
     exact ⟨p, List.mem_of_find?_eq_some hp, eq_of_beq h2, e⟩
   obtain ⟨p, hp, hpk, rfl⟩ := hmem
   cases hq : prevB x p.2 with
   | true =>
     rw [best_put hc hg hq]
     refine put fun g hgl hgd => ?_
     rw [Bool.eq_false_iff]
     intro e
     have := (h.top p hp).2.2.2 g hgl hgd
     rw [prev_trans e hq] at this
     cases this
   | false =>
     rw [best_old hc hg hq]
     refine ⟨h.ok, fun q hq' => ?_, fun f hf hkf hdf => ?_⟩
     · refine eff_snoc (h.top q hq') fun _ => ?_
       rw [Bool.eq_false_iff]
       intro e
       have e1 := prevE_key e
       have e2 := (h.ok q hq').1
       have e3 : q.1 = p.1 := by rw [e2, ← e1, hpk]
       have n := best_nodup
       by_cases hqp : q.2 = p.2
       · rw [hqp, hq] at e; cases e
       exact absurd (prev_total (h.ok q hq').2 (h.ok p hp).2 (by rw [← e2, ← (h.ok p hp).1, e3]) ((h.top p hp).2.2.2 _ (h.top q hq').1 (h.top q hq').2.2.1) ((h.top q hq').2.2.2 _ (h.top p hp).1 (h.top p hp).2.2.1)) hqp
     rcases List.mem_append.1 hf with hf | hf
     · exact h.all f hf hkf hdf
     cases List.mem_singleton.1 hf
     exact List.mem_map.2 ⟨p, hp, hpk⟩
theorem best_inv (l : List Fact) (d : Int) : EInv l d (bestL l d) := by
 have key : ∀ (r l : List Fact) (m : FMap), EInv l d m → EInv (l ++ r) d (r.foldl (bestStep d) m) := by
   intro r
   induction r with
   | nil => intro l m h; rw [List.append_nil]; exact h
   | cons x r ih => intro l m h; have := ih (l ++ [x]) _ (h.step x); rwa [List.append_assoc] at this
 exact key l [] [] ⟨fun p hp => (by cases hp), fun p hp => (by cases hp), fun f hf => (by cases hf)⟩
theorem best_eff {l : List Fact} {d : Int} {f : Fact} : f ∈ factsM (bestL l d) ↔ eff l d f := by
 have h := best_inv l d
 rw [factsM_mem h.ok]
 constructor
 · exact fun hf => h.top _ hf
 intro hf
 obtain ⟨p, hp, e⟩ := List.mem_map.1 (h.all f hf.1 hf.2.1 hf.2.2.1)
 have e : p.1 = keyB f := e
 have hpe := h.top p hp
 have : p.2 = f := prev_total (h.ok p hp).2 (keyB_valid hf.2.1) ((h.ok p hp).1.symm.trans e) (hf.2.2.2 _ hpe.1 hpe.2.2.1) (hpe.2.2.2 _ hf.1 hf.2.2.1)
 rw [← e, ← this]; exact hp
theorem factsM_nodup (l : List Fact) (d : Int) : (factsM (bestL l d)).Nodup := nodup_of_map (f := keyB) (by rw [factsM_keys (best_inv l d).ok]; exact best_nodup l d)
end Go.Wx
namespace Go.Proofs.YtbbpkdlehlamlaaGreatDoor
open Go.Proofs.Tryz
open Go.Wx Go.RowKit
end Go.Proofs.YtbbpkdlehlamlaaGreatDoor
end
section
namespace Go.Wx
theorem flat_size {α : Type} {enc : α → Array Go.Value} {k : Nat} (hk : ∀ x, (enc x).size = k) : ∀ xs : List α, (xs.flatMap fun x => (enc x).toList).length = xs.length * k
 | [] => by simp
 | x :: xs => by rw [List.flatMap_cons, List.length_append, flat_size hk xs, Array.length_toList, hk, List.length_cons, Nat.add_mul]; omega
theorem flat_take {α : Type} {enc : α → Array Go.Value} {k i : Nat} (hk : ∀ x, (enc x).size = k) {xs : List α} (hi : i ≤ xs.length) : (xs.flatMap fun x => (enc x).toList).take (i * k) = (xs.take i).flatMap fun x => (enc x).toList := by
 have e : xs = xs.take i ++ xs.drop i := (List.take_append_drop i xs).symm
 have hl : ((xs.take i).flatMap fun x => (enc x).toList).length = i * k := by rw [flat_size hk, List.length_take, Nat.min_eq_left hi]
 rw [show (xs.flatMap fun x => (enc x).toList) = ((xs.take i).flatMap fun x => (enc x).toList) ++ ((xs.drop i).flatMap fun x => (enc x).toList) by rw [← List.flatMap_append, List.take_append_drop], ← hl, List.take_left']
 rfl
section
variable {P : Program} {n : Nat} {ds : List Deferred} {l : Env} {w : World} {d : Option Tmp} {ty : TypeId} {ps : String} {af : Array Edge} {g : Option (Nat × Bool)}
theorem REv.clearTail {α : Type} {enc : α → Array Go.Value} {T e : TypeId} {k i cp : Nat} {x : Operand} {z : Go.Value} {ad : Option Addr} {xs : List α} (hT : P.underlying T = some (.slice e)) (hz : ∀ w, (zeroValue e).run P w = .ok z w) (hzs : z.cells.size = k) (h1 : z.cells.all (·.oneCell') = true) (hk : ∀ x, (enc x).size = k)
   (hx : Val l x (.slice (if cp = i then ad else ad.map (·.add (i * k))) (xs.length - i) (cp - i))) (hi : i ≤ xs.length) (ho : OwnS w 0 e k enc (.slice ad xs.length cp) xs) :
   REv P n ds l w ⟨d, .call { callee := .builtin .clear, args := #[x], argTypes := #[T] }, ty, ps, af, g⟩ (fun _ w' => Stp (aOwn e k enc (.slice ad xs.length cp) xs) (aOwn e k enc (.slice ad i cp) (xs.take i)) w w') := fun a ha => by
 by_cases h0 : xs.length - i = 0
 · have hie : i = xs.length := by omega
   subst hie
   refine ⟨.tuple #[], w, ?_, Fr.refl _ _, (show OwnS w 0 e k enc (.slice ad xs.length cp) (xs.take xs.length) by rw [List.take_length]; exact ho), fun i h => .inl h⟩
   have hx' := ha.ev hx
   rw [h0] at hx'
   simp only [execOp, resolve, invoke, builtin, Builtin.clear_]
   split at hx' <;> (try cases ad) <;> simp [hx', run_underlying hT, Result.andThen]
 obtain ⟨hlen, ⟨he, hn⟩ | ⟨g', cap', cur, he, _, hg, hcap, hcm, hcs, htake⟩⟩ := ho
 · exact absurd hn oQ
 cases he
 rw [if_neg (show ¬ cp = i by omega)] at hx
 have hzc : (Builtin.zeroCells z.cells (xs.length - i)).size = (xs.length - i) * k := by rw [← hzs]; simp [Builtin.zeroCells]
 have hle : xs.length * k ≤ cur.size := by rw [hcs]; exact Nat.mul_le_mul_right k hcap
 have hsum : i * k + (xs.length - i) * k = xs.length * k := by rw [← Nat.add_mul]; congr 1; omega
 have hst := run_storeCells_at P g' (i * k) e (Builtin.zeroCells z.cells (xs.length - i)).toList 0 cur w hg (by rw [Array.length_toList, hzc]; omega) (fun u hu => by
   simp only [Builtin.zeroCells, Array.toList_map, List.mem_map] at hu
   obtain ⟨i, _, rfl⟩ := hu
   by_cases hk : z.cells.size = 0
   · have : z.cells = #[] := Array.eq_empty_of_size_eq_zero hk
     simp [this] at *
   have hlt : i % z.cells.size < z.cells.size := Nat.mod_lt _ oQ
   rw [getElem!_pos z.cells _ hlt]
   exact Array.all_eq_true_iff_forall_mem.1 h1 _ (Array.getElem_mem hlt))
 refine ⟨.tuple #[], w.setRow g' (cur.toList.take (i * k + 0) ++ (Builtin.zeroCells z.cells (xs.length - i)).toList ++ cur.toList.drop (i * k + 0 + (Builtin.zeroCells z.cells (xs.length - i)).toList.length)).toArray, ?_, ⟨rfl, rfl, rfl, by simp, fun i hi hne => setRow_other w g' i _ (fun e => hne (by rw [e]; rfl))⟩, ?_, fun i h => .inl h⟩
 · obtain ⟨m, hm⟩ : ∃ m, xs.length - i = m + 1 := ⟨xs.length - i - 1, by omega⟩
   rw [hm] at hst hx ⊢
   have ead : (⟨g', 0, none⟩ : Addr).add (i * k) = ⟨g', i * k, none⟩ := by
     unfold Addr.add
     by_cases h : i * k = 0 <;> simp [h]
   simp only [Option.map_some] at hx
   rw [ead] at hx
   simp [execOp, resolve, invoke, builtin, ha.ev hx, Builtin.clear_, run_underlying hT, Result.andThen, hz]
   rw [hst]
   simp
 show OwnS _ 0 e k enc (.slice (some ⟨g', 0, none⟩) i cp) (xs.take i)
 have hf := flat_take hk hi
 refine ⟨by rw [flat_size hk, List.length_take, Nat.min_eq_left hi], .inr ⟨g', cp, _, by rw [List.length_take, Nat.min_eq_left hi], Nat.zero_le _, setRow_heap w g' cur _ e (0, 0) hg, by rw [List.length_take]; omega, hcm, ?_, ?_⟩⟩
 · simp only [List.size_toArray, List.length_append, List.length_take, List.length_drop, Array.length_toList, hzc]
   omega
 rw [List.length_take, Nat.min_eq_left hi, ← hf, ← htake]
 simp only [Nat.add_zero, List.append_assoc]
 rw [List.take_append_of_le_length (by rw [List.length_take, Array.length_toList]; omega), List.take_take, List.take_take]
 congr 1
 omega
end
section
variable {P : Program} {n : Nat} {ds : List Deferred} {l : Env} {w : World} {d : Option Tmp} {ty : TypeId} {ps : String} {af : Array Edge} {g : Option (Nat × Bool)}
theorem PEv.eqlNilS {T T' e : TypeId} {x : Operand} {ad : Option Addr} {m c : Nat} (hT : P.underlying T = some (.slice e)) (hx : Val l x (.slice ad m c)) : PEv P n ds l w ⟨d, .binOp .eql T x (.const (.slice none 0 0)) T', ty, ps, af, g⟩ (.bool ad.isNone) := fun a w' ha _ => by
 refine run_v ?_
 have e1 : a.eval (.const (.slice none 0 0)) = .slice none 0 0 := rfl
 rw [ha.ev hx, e1, Sem.run_bind]
 have : (eqGuard .eql T x (.const (.slice none 0 0)) (.slice ad m c) (.slice none 0 0)).run P w' = .ok () w' := by unfold eqGuard; rfl
 rw [this]
 exact Lib.run_eql_slice_nil w' T e ad m c 0 0 hT
end
def keepX {α : Type} (p : α → Bool) (l : List α) (j : Nat) : List α := (l.take j).filter fun x => !p x
theorem keepX_len {α : Type} (p : α → Bool) (l : List α) (j : Nat) : (keepX p l j).length ≤ j := Nat.le_trans (List.length_filter_le _ _) (by rw [List.length_take]; omega)
theorem keepX_first {α : Type} {p : α → Bool} {l : List α} {k : Nat} {x : α} (hx : l[k]? = some x) (hp : p x = true) (hn : ∀ y ∈ l.take k, p y = false) : keepX p l (k + 1) = l.take k := by
 unfold keepX
 rw [take_succ_of hx, List.filter_append, List.filter_cons_of_neg (by rw [hp]; decide), List.filter_nil, List.append_nil]
 exact List.filter_eq_self.2 fun y hy => by rw [hn y hy]; rfl
theorem keepX_yes {α : Type} {p : α → Bool} {l : List α} {k : Nat} {x : α} (hx : l[k]? = some x) (hp : p x = false) : keepX p l (k + 1) = keepX p l k ++ [x] := by
 unfold keepX
 rw [take_succ_of hx, List.filter_append, List.filter_cons_of_pos (by rw [hp]; rfl), List.filter_nil]
theorem keepX_no {α : Type} {p : α → Bool} {l : List α} {k : Nat} {x : α} (hx : l[k]? = some x) (hp : p x = true) : keepX p l (k + 1) = keepX p l k := by
 unfold keepX
 rw [take_succ_of hx, List.filter_append, List.filter_cons_of_neg (by rw [hp]; decide), List.filter_nil, List.append_nil]
theorem keepX_none {α : Type} {p : α → Bool} {l : List α} (hn : ∀ y ∈ l, p y = false) : (l.filter fun x => !p x) = l := List.filter_eq_self.2 fun y hy => by rw [hn y hy]; rfl
structure DelX {α : Type} (p : α → Bool) (l M : List α) (j : Nat) : Prop where
 len : M.length = l.length
 kept : M.take (keepX p l j).length = keepX p l j
 rest : ∀ m, j ≤ m → M[m]? = l[m]?
theorem DelX.start {α : Type} {p : α → Bool} {l : List α} {k : Nat} {x : α} (hx : l[k]? = some x) (hp : p x = true) (hn : ∀ y ∈ l.take k, p y = false) : DelX p l l (k + 1) := by
 have hk : k < l.length := (gQ.1 hx).1
 refine ⟨rfl, ?_, fun _ _ => rfl⟩
 rw [keepX_first hx hp hn, List.length_take, Nat.min_eq_left (by omega)]
theorem DelX.no {α : Type} {p : α → Bool} {l M : List α} {j : Nat} {x : α} (h : DelX p l M j) (hx : l[j]? = some x) (hp : p x = true) : DelX p l M (j + 1) :=
 ⟨h.len, by rw [keepX_no hx hp]; exact h.kept, fun m hm => h.rest m oQ⟩
theorem DelX.yes {α : Type} {p : α → Bool} {l M : List α} {j : Nat} {x : α} (h : DelX p l M j) (hx : l[j]? = some x) (hp : p x = false) : DelX p l (M.set (keepX p l j).length x) (j + 1) := by
 have hj : j < l.length := (gQ.1 hx).1
 have hk := keepX_len p l j
 have hM := h.len
 refine ⟨by rw [List.length_set, hM], ?_, fun m hm => ?_⟩
 · rw [keepX_yes hx hp, List.length_append, List.length_singleton, List.take_succ_eq_append_getElem (by rw [List.length_set]; omega), List.getElem_set_self, List.take_set_of_le (Nat.le_refl _), h.kept]
 rw [List.getElem?_set_ne (by omega)]
 exact h.rest m oQ
theorem keepX_all {α : Type} {p : α → Bool} {l : List α} : keepX p l l.length = l.filter fun x => !p x := by unfold keepX; rw [List.take_length]
theorem OwnS.lcp {α : Type} {enc : α → Array Go.Value} {b k m cp : Nat} {e : TypeId} {w : World} {ad : Option Addr} {xs : List α} (h : OwnS w b e k enc (.slice ad m cp) xs) : xs.length ≤ cp := by
 obtain ⟨_, ⟨he, hn⟩ | ⟨g', cap, cur, he, _, _, hcap, _⟩⟩ := h
 · cases he; omega
 cases he; exact hcap
end Go.Wx
namespace Go.Proofs.YtbbpkdlehlamlaaGreatDoor
open Go.Proofs.Tryz
open Go.Wx Go.RowKit
theorem deleteF_any (cf : Nat) (lb : Array Go.Value) (p : Fact → Bool) (hen : ∀ args w, (callFunc cf args).run prog w = .ok (.enter cf args) w) (ad : Option Addr) (cp : Nat) (l : List Fact) (w : World) (ho : OwnS w 0 24 19 Fact.cells (.slice ad l.length cp) l) (hl : l.length ≤ 100000) (hp : ∀ W, Fr (aOwn 24 19 Fact.cells (.slice ad l.length cp) (l)).foot w W → ∀ x, Ret prog cf (#[.agg (Fact.cells x)] ++ lb) W fun r W' => r = .bool (p x) ∧ Up W W') : Ret prog 98 #[.slice ad l.length cp, .func (.func cf) #[] lb] w fun r w' => Stp (aOwn 24 19 Fact.cells (.slice ad l.length cp) (l)) (aOwn 24 19 Fact.cells (r) (l.filter fun x => !p x)) w w' := by
 obtain ⟨w0, rfl⟩ : ∃ w0, w0 = w := ⟨_, rfl⟩
 have hS : Wx.Sep (aOwn 24 19 Fact.cells (.slice ad l.length cp) (l)).foot w0 w0 [aOwn 24 19 Fact.cells (.slice ad l.length cp) (l)] := Sep.cons ho (fun _ h => h) (Sep.start _ _) (by simp)
 refine cS (n := 42) (m := 9) func98 rfl rfl rfl ?_
 refine CW.S (LW.C (LW.S (CW.region (LW.M rfl (LW.M rfl ?_)))))
 refine LW.K (eC (.u rfl rfl) (en179)) rfl (index_any cf lb p hen ad cp l _ ((hS.own 0 rfl).els (fun _ => rfl)) hl (fun W u x => hp W (hS.fr.trans (u.fr _)) x)) ?_
 rintro _ w1 ⟨i, rfl, hi, uw1⟩
 have zw1 := uw1.size
 replace hS := hS.up uw1
 refine LW.A rfl (LW.S (CW.S (LW.M rfl ?_)))
 refine LW.pp (.eql (.t rfl) (.const _)) ?_
 refine LW.T ?_
 refine CW.cond (.t rfl) (fun h12 => ?_) (fun h12 => ?_)
 ·replace h12 := dQ h12
  have hn := (hi.resolve_left (fun ⟨k, x, e, _⟩ => by omega)).2
  refine CW.S (LW.M rfl (LW.A rfl (LW.T (CW.ret (KW.then_ret ?_)))))
  refine KW.ret1 rfl rfl ⟨_, rfl, ?_⟩
  first | exact ⟨hS.fr, by rw [keepX_none hn]; exact hS.get 0 rfl, fun _ h => .inl h⟩ | exact ⟨hS.fr, by rw [← keepX_all, ← hjl, ← hD.kept, ← hi2]; exact hS.get 0 rfl, fun _ h => .inl h⟩
 replace h12 := dQ h12
 refine CW.skip (KW.then (CW.seq (CW.seq ?_)))
 obtain ⟨k, x, rfl, hx, hpx, hn⟩ := hi.resolve_right (fun ⟨e, _⟩ => h12 e)
 have hkl := (gQ.1 hx).1
 obtain ⟨g, rfl⟩ := (hS.own 0 rfl).adr oQ
 have hD0 := DelX.start hx hpx hn
 have hk0 : k = (keepX p l (k + 1)).length := by rw [keepX_first hx hpx hn, List.length_take]; omega
 refine CW.region (LW.M rfl ?_)
 refine LW.pp (.inc (.t rfl) oQ) ?_
 refine LW.A rfl (LW.T (CW.block ?_))
 refine CW.loopB (σ := Nat × Nat × List Fact) (fun s w => (s.1 ≤ l.length) ∧ (s.2.1 = (keepX p l s.1).length) ∧ (DelX p l s.2.2 s.1) ∧ (Wx.Sep (aOwn 24 19 Fact.cells (.slice (some ⟨g, 0, none⟩) l.length cp) l).foot w0 w [aOwn 24 19 Fact.cells (.slice (some ⟨g, 0, none⟩) l.length cp) s.2.2])) (fun s => [(6, .eq (vi (s.1 : Int))), (5, .eq (vi (s.2.1 : Int)))]) ([(0, .eq _), (1, .eq _), (4, .eq _)]) (fun s => l.length - s.1) (k + 1, k, l) ?_ ⟨rfl, rfl, rfl, rfl, rfl, trivial⟩ ?_
 ·exact ⟨by show k + 1 ≤ _; omega, hk0, hD0, hS⟩
 rintro ⟨j, i, M⟩ w2 ⟨hj, hi2, hD, hS⟩
 dsimp only at hj hi2 hD hS
 change CW _ _ _ _ _ _ _ ([(6, .eq (vi (j : Int))), (5, .eq (vi (i : Int)))] ++ _) _
 refine CW.seq (CW.S (LW.M rfl (LW.M rfl ?_)))
 refine LW.pp (.lenS underlying26 (.t rfl)) ?_
 refine LW.pp (.lss (.t rfl) (.t rfl)) ?_
 refine LW.T ?_
 refine CW.cond (.t rfl) (fun h19 => ?_) (fun h19 => ?_)
 ·replace h19 := dQ h19
  refine CW.skip (KW.then (CW.seq (CW.block (CW.seq ?_))))
  have hjl : j < l.length := by omega
  obtain ⟨x, hx⟩ := getElem?_of_lt (xs := l) (i := j) hjl
  have hxM := (hD.rest j (Nat.le_refl _)).trans hx
  obtain ⟨Bx, ox, ax, hcx⟩ := ((hS.own 0 rfl).els (fun _ => rfl)) j x hxM
  cases ax
  refine CW.region (LW.M rfl (LW.M rfl ?_))
  refine LW.pp (.indexAddr' underlying26 sizeOf24 (.t rfl) (.t rfl) oQ rfl) ?_
  refine LW.pp (.la isAgg24 sizeOf24 rfl (hcx)) ?_
  refine LW.rr (.allocA zeroValue24) rfl ?_
  rintro _ w3 ⟨B7, rfl, MB7⟩
  refine LW.E (.storeA sizeOf24 rfl (.t rfl) (.t rfl) (Fact.one _) MB7.blk rfl) ?_
  intro w4 LB7
  have NB7 := MB7.set LB7
  clear LB7 MB7
  have eB7 := NB7.at_
  have zB7 := NB7.size
  replace hS := hS.addB NB7
  change Wx.Sep _ _ _ [_, _] at hS
  refine LW.S (CW.region (LW.M rfl ?_))
  refine LW.pp (.la isAgg24 sizeOf24 rfl ((hS.blk 1 rfl).agg)) ?_
  refine LW.K (enter_call (.t rfl) (.cons (.t rfl) .nil) (hen)) rfl (hp _ hS.fr x) ?_
  rintro _ w5 ⟨rfl, uw5⟩
  have zw5 := uw5.size
  replace hS := hS.up uw5
  refine LW.pp (.not (.t rfl)) ?_
  refine LW.T ?_
  refine CW.cond (.t rfl) (fun h29 => ?_) (fun h29 => ?_)
  ·replace h29 := dQ h29
   refine CW.seq ?_
   have hkj := keepX_len p l j
   have hMl := hD.len
   have hpn : p x = false := by simpa using h29
   have hky := keepX_yes hx hpn
   refine CW.region (LW.M rfl (LW.M rfl ?_))
   refine LW.pp (.la isAgg24 sizeOf24 rfl ((hS.blk 1 rfl).agg)) ?_
   refine LW.pp (.indexAddr' underlying26 sizeOf24 (.t rfl) (.t rfl) oQ rfl) ?_
   refine LW.E (.storeOwnA (enc := Fact.cells) (k := 19) (z := x) (i := i) sizeOf24 (fun _ => rfl) Fact.one (.t rfl) (.t rfl) (hS.own 0 rfl) oQ) ?_
   intro w6 Gw6
   have zw6 := Gw6.fr.size
   replace hS := hS.stp 0 rfl Gw6
   change Wx.Sep _ _ _ [_, _] at hS
   refine LW.T (CW.region (LW.M rfl ?_))
   refine LW.pp (.inc (.t rfl) oQ) ?_
   refine LW.A rfl (LW.nil (KW.inBlock (KW.then (CW.region (LW.M rfl ?_)))))
   refine LW.pp (.inc (.t rfl) oQ) ?_
   refine LW.A rfl (LW.nil (KW.round ?_))
   first | exact ⟨(j + 1, i + 1, M.set i x), ⟨by show j + 1 ≤ _; omega, by show i + 1 = _; rw [hky, hi2]; simp, by show DelX p l (M.set i x) (j + 1); rw [hi2]; exact hD.yes hx hpn, hS.take 1⟩, ⟨rfl, rfl, rfl, rfl, rfl, trivial⟩, by show l.length - (j + 1) < l.length - j; omega⟩ | exact ⟨(j + 1, i, M), ⟨by show j + 1 ≤ _; omega, by show i = _; rw [keepX_no hx (by simpa using h29)]; exact hi2, hD.no hx (by simpa using h29), hS.take 1⟩, ⟨rfl, rfl, rfl, rfl, rfl, trivial⟩, by show l.length - (j + 1) < l.length - j; omega⟩
  replace h29 := dQ h29
  refine CW.skip (KW.inBlock (KW.then (CW.region (LW.M rfl ?_))))
  refine LW.pp (.inc (.t rfl) oQ) ?_
  refine LW.A rfl (LW.nil (KW.round ?_))
  first | exact ⟨(j + 1, i + 1, M.set i x), ⟨by show j + 1 ≤ _; omega, by show i + 1 = _; rw [hky, hi2]; simp, by show DelX p l (M.set i x) (j + 1); rw [hi2]; exact hD.yes hx hpn, hS.take 1⟩, ⟨rfl, rfl, rfl, rfl, rfl, trivial⟩, by show l.length - (j + 1) < l.length - j; omega⟩ | exact ⟨(j + 1, i, M), ⟨by show j + 1 ≤ _; omega, by show i = _; rw [keepX_no hx (by simpa using h29)]; exact hi2, hD.no hx (by simpa using h29), hS.take 1⟩, ⟨rfl, rfl, rfl, rfl, rfl, trivial⟩, by show l.length - (j + 1) < l.length - j; omega⟩
 replace h19 := dQ h19
 refine CW.exit (KW.then_exit (KW.then_exit (KW.block_hit (KW.then (CW.seq ?_)))))
 have hjl : j = l.length := by omega
 have hkj := keepX_len p l j
 have hMl := hD.len
 have hcl := (hS.own 0 rfl).lcp
 refine CW.region (LW.M rfl (LW.M rfl ?_))
 refine LW.pp (.sliceFrom underlying26 sizeOf24 (.t rfl) (.t rfl) oQ) ?_
 refine LW.rn (REv.clearTail (enc := Fact.cells) (k := 19) underlying26 zeroValue24 rfl (by simp [Value.cells, Value.oneCell']) (fun _ => rfl) (xs := M) (i := i) (by rw [hD.len]; exact .tmp rfl) oQ (by rw [hD.len]; exact hS.own 0 rfl)) rfl rfl rfl ?_
 intro v_ w7 Gw7
 rw [hD.len] at Gw7
 have zw7 := Gw7.fr.size
 replace hS := hS.stp 0 rfl Gw7
 change Wx.Sep _ _ _ [_] at hS
 refine LW.S (CW.region (LW.M rfl (LW.M rfl ?_)))
 refine LW.pp (.sliceHi underlying26 sizeOf24 (.t rfl) (.t rfl) oQ) ?_
 refine LW.A rfl (LW.T (CW.ret ?_))
 refine KW.ret1 rfl rfl ⟨_, rfl, ?_⟩
 first | exact ⟨hS.fr, by rw [keepX_none hn]; exact hS.get 0 rfl, fun _ h => .inl h⟩ | exact ⟨hS.fr, by rw [← keepX_all, ← hjl, ← hD.kept, ← hi2]; exact hS.get 0 rfl, fun _ h => .inl h⟩
theorem cloneF_any (ad : Option Addr) (cp : Nat) (l : List Fact) (w : World) (hE0 : Els w ad 19 Fact.cells l) (hl : l.length ≤ 100000) : Ret prog 99 #[.slice ad l.length cp] w fun r w' => OwnS w' w.heap.size 24 19 Fact.cells r l ∧ Up w w' := by
 obtain ⟨w0, rfl⟩ : ∃ w0, w0 = w := ⟨_, rfl⟩
 have hS := Sep.start no w0
 refine cS (n := 8) (m := 9) func99 rfl rfl rfl ?_
 refine CW.S (LW.C (LW.S (CW.S (LW.M rfl ?_))))
 refine LW.pp (.eqlNilS underlying26 (.t rfl)) ?_
 refine LW.T ?_
 refine CW.cond (.t rfl) (fun h4 => ?_) (fun h4 => ?_)
 ·replace h4 := dQ h4
  have hnil : l = [] := by cases l with | nil => rfl | cons x r => (obtain ⟨B, o, e, _⟩ := hE0 0 x rfl; rw [e] at h4; cases h4)
  refine CW.S (LW.C (LW.T (CW.ret (KW.then_ret ?_))))
  refine KW.ret1 rfl rfl ⟨_, rfl, ?_⟩
  first | (subst hnil; exact ⟨OwnS.nil _ _ _ _ _, hS.upd⟩) | exact ⟨(hS.own 0 rfl).rebase (fun i h => (hS.foot 0 rfl i h).resolve_left (fun h => h)), hS.upd⟩
 replace h4 := dQ h4
 refine CW.skip (KW.then (CW.S ?_))
 refine LW.rr (.buildSlice (xs := ([] : List Fact)) (enc := Fact.cells) (mk := fun f => .agg f.cells) underlying26 sizeOf24 zeroValue24 rfl cQ (fun _ => rfl) (fun _ => rfl) .nil rfl) rfl ?_
 intro v5 w1 hN5
 obtain ⟨uw1, B5, rfl, hO5⟩ := NewSl.own0 hN5 (Nat.le_refl _)
 have zw1 := uw1.size
 replace hS := hS.add uw1 (A' := aOwn 24 19 Fact.cells (.slice (some ⟨B5, 0, none⟩) 0 0) ([] : List Fact)) (hO5.mono (Nat.zero_le _)) (fun i h => hO5.base i h)
 clear hN5 hO5
 change Wx.Sep _ _ _ [_] at hS
 refine LW.M rfl ?_
 refine LW.rr (.appendF (enc := Fact.cells) (bytes := 160) (i := Tryz.t24) underlying26 kQ rfl rfl rfl rfl cQ (fun _ => rfl) Fact.one (.t rfl) (.t rfl) (hS.own 0 rfl) (Sl.of_els (Els.up hE0 hS.upd)) (by simp [maxLen]; omega) (by simp; omega)) rfl ?_
 intro v7 w2 Gw2
 have zw2 := Gw2.fr.size
 replace hS := hS.stp 0 rfl Gw2
 change Wx.Sep _ _ _ [_] at hS
 refine LW.A rfl (LW.T (CW.ret ?_))
 refine KW.ret1 rfl rfl ⟨_, rfl, ?_⟩
 first | (subst hnil; exact ⟨OwnS.nil _ _ _ _ _, hS.upd⟩) | exact ⟨(hS.own 0 rfl).rebase (fun i h => (hS.foot 0 rfl i h).resolve_left (fun h => h)), hS.upd⟩
end Go.Proofs.YtbbpkdlehlamlaaGreatDoor
end
section
namespace Go.Wx
section
variable {P : Program} {n : Nat} {ds : List Deferred} {l : Env} {w : World} {d : Option Tmp} {ty : TypeId} {ps : String} {af : Array Edge} {g : Option (Nat × Bool)}
theorem PEv.eqlNilN {T T' : TypeId} {ms : Array (String × TypeId)} {x : Operand} (hT : P.underlying T = some (.interface ms)) (hx : Val l x .nilIface) : PEv P n ds l w ⟨d, .binOp .eql T x (.const .nilIface) T', ty, ps, af, g⟩ (.bool true) := fun a w' ha _ => by
 refine run_v ?_
 have e1 : a.eval (.const .nilIface) = .nilIface := rfl
 rw [ha.ev hx, e1, Sem.run_bind]
 have : (eqGuard .eql T x (.const .nilIface) .nilIface .nilIface).run P w' = .ok () w' := by unfold eqGuard; cases x <;> rfl
 rw [this]
 have h : ∀ d : Nat, (Op.equalIn (d + 2) T .nilIface .nilIface).run P w' = .ok true w' := fun d => by simp [Op.equalIn, run_underlying hT]
 simp only [binOp]
 simp [Op.equal, Op.maxDepth, h 9998]
end
theorem AggAt.pre {w : World} {B o : Nat} {a b : Array Value} (h : AggAt w B o (a ++ b)) : AggAt w B o a := fun j v hv => h j v (by
 have hj := (Array.getElem?_eq_some_iff.1 hv).1
 rw [Array.getElem?_append_left hj]; exact hv)
def placeC (bc : Array Value) (t c r : Int) : Array Value := bc ++ #[vi t, vi c, vi r]
theorem placeC_size {w : World} {bc : Array Value} {b : Base} (h : BaseC w bc b) (t c r : Int) : (placeC bc t c r).size = 14 := by unfold placeC; rw [Array.size_append, h.size]; rfl
theorem placeC_base {w : World} {B : Nat} {bc : Array Value} {t c r : Int} {T : TypeId} (h : Blk w B (placeC bc t c r) T) : AggAt w B 0 bc := h.agg.pre
theorem placeC_at {w w0 : World} {B : Nat} {bc : Array Value} {b : Base} {t c r : Int} {T : TypeId} (h : Blk w B (placeC bc t c r) T) (hC : BaseC w0 bc b) (j : Nat) {v : Value} (hv : (#[vi t, vi c, vi r] : Array Value)[j]? = some v) : w.cell? ⟨B, 11 + j, none⟩ = some v :=
 h.cell (by
   unfold placeC
   have := hC.size
   rw [Array.getElem?_append_right oQ, this, Nat.add_sub_cancel_left]; exact hv)
theorem placeC_lst {w : World} {B : Nat} {bc : Array Value} {t c r : Int} {T : TypeId} (h : Blk w B (placeC bc t c r) T) {j : Nat} {v : Value} (hv : bc[j]? = some v) : w.cell? ⟨B, j, none⟩ = some v :=
 h.cell (by
   unfold placeC
   rw [Array.getElem?_append_left (Array.getElem?_eq_some_iff.1 hv).1]; exact hv)
def isVal (n : Int) : Bool := decide (-1000000 ≤ n) && decide (n ≤ 1000000)
def tarF (T : List Fact) (r t : Int) : Int := if (tgF r t T).2 && isVal (tgF r t T).1.Value then (tgF r t T).1.Value else 0
theorem tarF_yes {T : List Fact} {r t : Int} (h : ((tgF r t T).2 && isVal (tgF r t T).1.Value) = true) : tarF T r t = (tgF r t T).1.Value := if_pos h
theorem tarF_no {T : List Fact} {r t : Int} (h : ((tgF r t T).2 && isVal (tgF r t T).1.Value) = false) : tarF T r t = 0 := if_neg (by rw [h]; exact Bool.false_ne_true)
theorem tarF_in (T : List Fact) (r t : Int) : -1000000 ≤ tarF T r t ∧ tarF T r t ≤ 1000000 := by
 cases h : (tgF r t T).2 && isVal (tgF r t T).1.Value with
 | false => rw [tarF_no h]; omega
 | true =>
   rw [tarF_yes h]
   rw [Bool.and_eq_true] at h
   have h2 := h.2
   unfold isVal at h2
   rw [Bool.and_eq_true] at h2
   exact ⟨of_decide_eq_true h2.1, of_decide_eq_true h2.2⟩
def notCounts (m : Option Fact) (t : Int) : Bool := !m.isSome || !isVal (m.getD zeroF).Value || decide (t < (m.getD zeroF).Time)
def devF (M T : List Fact) (r : Int) (x : Fact) (t : Int) : Int × Bool :=
 if notCounts (M.find? fun y => decide (y.ID = x.ID)) t then (0, false) else (((M.find? fun y => decide (y.ID = x.ID)).getD zeroF).Value - tarF T r x.Time, true)
theorem devF_no {M T : List Fact} {r : Int} {x : Fact} {t : Int} (h : notCounts (M.find? fun y => decide (y.ID = x.ID)) t = true) : devF M T r x t = (0, false) := if_pos h
theorem devF_yes {M T : List Fact} {r : Int} {x : Fact} {t : Int} (h : notCounts (M.find? fun y => decide (y.ID = x.ID)) t = false) : devF M T r x t = (((M.find? fun y => decide (y.ID = x.ID)).getD zeroF).Value - tarF T r x.Time, true) := if_neg (by rw [h]; exact Bool.false_ne_true)
theorem val_in {m : Option Fact} {t : Int} (h : notCounts m t = false) : -1000000 ≤ (m.getD zeroF).Value ∧ (m.getD zeroF).Value ≤ 1000000 := by
 unfold notCounts at h
 simp only [Bool.or_eq_false_iff, Bool.not_eq_false'] at h
 have h2 := h.1.2
 unfold isVal at h2
 rw [Bool.and_eq_true] at h2
 exact ⟨of_decide_eq_true h2.1, of_decide_eq_true h2.2⟩
theorem devF_in (M T : List Fact) (r : Int) (x : Fact) (t : Int) : -2000000 ≤ (devF M T r x t).1 ∧ (devF M T r x t).1 ≤ 2000000 := by
 cases h : notCounts (M.find? fun y => decide (y.ID = x.ID)) t with
 | true => rw [devF_no h]; exact ⟨by decide, by decide⟩
 | false =>
   rw [devF_yes h]
   have h1 := val_in h
   have h2 := tarF_in T r x.Time
   show -2000000 ≤ _ - _ ∧ _ - _ ≤ 2000000
   omega
def CondOk (P : Program) (w : World) (v : Value) (p : Fact → Bool) : Prop := ∃ cf lb, v = .func (.func cf) #[] lb ∧ (∀ args w, (callFunc cf args).run P w = .ok (.enter cf args) w) ∧ ∀ W, Up w W → ∀ x : Fact, Ret P cf (#[.agg x.cells] ++ lb) W fun r W' => r = .bool (p x) ∧ Up W W'
theorem CondOk.up {P : Program} {w w' : World} {v : Value} {p : Fact → Bool} (h : CondOk P w v p) (u : Up w w') : CondOk P w' v p :=
 let ⟨cf, lb, e, he, hp⟩ := h
 ⟨cf, lb, e, he, fun W k => hp W (u.trans k)⟩
structure Cnd where
 cf : Nat
 lb : Array Value
 p : Fact → Bool
def Cnd.v (q : Cnd) : Value := .func (.func q.cf) #[] q.lb
def Cnd.cells (q : Cnd) : Array Value := #[q.v]
def CndsOk (P : Program) (w : World) (qs : List Cnd) : Prop := ∀ q ∈ qs, CondOk P w q.v q.p
theorem CndsOk.up {P : Program} {w w' : World} {qs : List Cnd} (h : CndsOk P w qs) (u : Up w w') : CndsOk P w' qs := fun q hq => (h q hq).up u
def allQ (qs : List Cnd) (x : Fact) : Bool := qs.all fun q => q.p x
theorem anyN_take {qs : List Cnd} {k : Nat} {q : Cnd} {g : Cnd → Bool} (h : qs[k]? = some q) (hk : ∀ y ∈ qs.take k, g y = false) (hx : g q = false) : ∀ y ∈ qs.take (k + 1), g y = false := fun y hy => by
 rw [List.take_add_one, h] at hy
 rcases List.mem_append.1 hy with hy | hy
 · exact hk y hy
 cases List.mem_singleton.1 hy; exact hx
end Go.Wx
namespace Go.Proofs.YtbbpkdlehlamlaaGreatDoor
open Go.Proofs.Tryz
open Go.Wx Go.RowKit
theorem must_any (a : Rt) (w : World) : Ret prog 89 #[.agg a.cells, vi 0] w fun r w' => r = .agg a.cells ∧ Up w w' := by
 obtain ⟨w0, rfl⟩ : ∃ w0, w0 = w := ⟨_, rfl⟩
 have hS := Sep.start no w0
 refine cS (n := 9) (m := 9) func89 rfl rfl rfl ?_
 refine CW.S ?_
 refine LW.rr (.boxA (.t rfl)) rfl ?_
 rintro _ w1 ⟨B2, rfl, NB2⟩
 have eB2 := NB2.at_
 have zB2 := NB2.size
 replace hS := hS.addB NB2
 change Wx.Sep _ _ _ [_] at hS
 refine LW.rr (.allocA zeroValue45) rfl ?_
 rintro _ w2 ⟨B4, rfl, NB4⟩
 have eB4 := NB4.at_
 have zB4 := NB4.size
 replace hS := hS.addB NB4
 change Wx.Sep _ _ _ [_, _] at hS
 refine LW.S (CW.S (LW.M rfl ?_))
 refine LW.pp (.neq (.t rfl) (.const _)) ?_
 refine LW.T ?_
 refine CW.cond_false (.t rfl) ?_
 refine CW.skip (KW.then (CW.S ?_))
 refine LW.pp (.la isAgg45 sizeOf45 rfl ((hS.blk 0 rfl).agg)) ?_
 refine LW.E (.storeA sizeOf45 rfl (.t rfl) (.t rfl) (Rt.one _) (hS.blk 1 rfl) rfl) ?_
 intro w3 Nw3
 have zw3 := Nw3.size
 replace hS := hS.putB 1 rfl Nw3
 change Wx.Sep _ _ _ [_, _] at hS
 refine LW.T (CW.ret ?_)
 refine KW.retA rfl rfl isAgg45 sizeOf45 rfl ((hS.blk 1 rfl).agg) ⟨_, rfl, ?_⟩
 exact ⟨rfl, hS.upd⟩
theorem whole_any (n : Int) (w : World) (hn : n.natAbs ≤ 1000000000) : Ret prog 87 #[vi n] w fun r w' => r = .agg (redF n 1).cells ∧ Up w w' := by
 obtain ⟨w0, rfl⟩ : ∃ w0, w0 = w := ⟨_, rfl⟩
 have hS := Sep.start no w0
 refine cS (n := 8) (m := 9) func87 rfl rfl rfl ?_
 refine CW.S ?_
 refine LW.rr (.allocA zeroValue45) rfl ?_
 rintro _ w1 ⟨B2, rfl, NB2⟩
 have eB2 := NB2.at_
 have zB2 := NB2.size
 replace hS := hS.addB NB2
 change Wx.Sep _ _ _ [_] at hS
 refine LW.S (CW.region (LW.M rfl ?_))
 refine LW.K (eC (.cons (.t rfl) (.cons (.const _) .nil)) (en57)) rfl (Make_any n 1 _ ⟨by omega, by omega⟩ cQ ⟨by decide, by decide⟩) ?_
 rintro _ w2 ⟨rfl, uw2⟩
 have zw2 := uw2.size
 replace hS := hS.up uw2
 rw [mkF_fits (fits_small hn cQ)]
 refine LW.pp (.extract (.t rfl) rfl) (LW.pp (.extract (.t rfl) rfl) ?_)
 refine LW.K (eC (.u rfl rfl) (en89)) rfl (must_any (redF n 1) _) ?_
 rintro _ w3 ⟨rfl, uw3⟩
 have zw3 := uw3.size
 replace hS := hS.up uw3
 refine LW.E (.storeA sizeOf45 rfl (.t rfl) (.t rfl) (Rt.one _) (hS.blk 0 rfl) rfl) ?_
 intro w4 Nw4
 have zw4 := Nw4.size
 replace hS := hS.putB 0 rfl (show Set_ _ w4 _ ((redF n 1).cells) _ from Nw4)
 change Wx.Sep _ _ _ [_] at hS
 refine LW.T (CW.ret ?_)
 refine KW.retA rfl rfl isAgg45 sizeOf45 rfl ((hS.blk 0 rfl).agg) ⟨_, rfl, ?_⟩
 exact ⟨rfl, hS.upd⟩
theorem isValue_any (n : Int) (w : World) : Ret prog 169 #[vi n] w fun r w' => r = .bool (isVal n) ∧ Up w w' := by
 have hW := Up.refl w
 refine cS (n := 9) (m := 9) func169 rfl rfl rfl ?_
 refine CW.S (LW.C (LW.S (CW.region (LW.M rfl ?_))))
 refine LW.pp (.geq (.t rfl) (.const _)) ?_
 refine LW.M rfl ?_
 refine LW.g rfl rfl rfl rfl rfl rfl rfl (fun hc => PEv.move (.t rfl)) ?_
 refine LW.g rfl rfl rfl rfl rfl rfl rfl (fun hc => PEv.leq vQ (.const _)) ?_
 refine LW.pp (.pick_and (.t rfl) (fun hp => (by first | exact .const _ | exact .tmp rfl | exact .cond rfl (by first | assumption | (rw [hp]; rfl) | (rw [hc, hp]; rfl) | simp_all)))) ?_
 refine LW.A rfl (LW.T (CW.ret ?_))
 refine KW.ret1 rfl rfl ⟨_, rfl, ?_⟩
 exact ⟨rfl, hW⟩
theorem failed0_any (w : World) : Ret prog 48 #[Value.nilIface] w fun r w' => r = vi 0 ∧ Up w w' := by
 have hW := Up.refl w
 refine cS (n := 19) (m := 9) func48 rfl rfl rfl ?_
 refine CW.S (LW.C (LW.S (CW.S (LW.M rfl ?_))))
 refine LW.pp (.eqlNilN underlying20 (.t rfl)) ?_
 refine LW.T ?_
 refine CW.cond_true (.t rfl) ?_
 refine CW.S (LW.C (LW.T (CW.ret (KW.then_ret ?_))))
 refine KW.ret1 rfl rfl ⟨_, rfl, ?_⟩
 exact ⟨rfl, hW⟩
theorem ptarget_any (bc : Array Go.Value) (b : Base) (t c r time : Int) (w : World) (hC : BaseC w bc b) (hl : b.Targets.length ≤ 100000) : Ret prog 92 #[.agg (placeC bc t c r), vi time] w fun r0 w' => r0 = vi (tarF b.Targets r time) ∧ Up w w' := by
 obtain ⟨w0, rfl⟩ : ∃ w0, w0 = w := ⟨_, rfl⟩
 have hS := Sep.start no w0
 refine cS (n := 22) (m := 9) func92 rfl rfl rfl ?_
 refine CW.S ?_
 refine LW.rr (.boxA (.t rfl)) rfl ?_
 rintro _ w1 ⟨B2, rfl, NB2⟩
 have eB2 := NB2.at_
 have zB2 := NB2.size
 replace hS := hS.addB NB2
 change Wx.Sep _ _ _ [_] at hS
 refine LW.C (LW.S (CW.S ?_))
 refine LW.pp (.fA 0 underlying99 rfl sizeOf32 rfl) ?_
 refine LW.pp (.loadA isAgg32 sizeOf32 (hC.size) (.t rfl) (placeC_base (hS.blk 0 rfl))) ?_
 refine LW.pp (.fA 13 underlying99 rfl sizeOf3 rfl) ?_
 refine LW.pp (.ld isAgg3 rfl (placeC_at (hS.blk 0 rfl) hC 2 rfl)) ?_
 refine LW.M rfl ?_
 refine LW.K (eC (.cons (.t rfl) (.cons (.t rfl) (.cons (.t rfl) .nil))) (en173)) rfl (Target_any bc b r time _ (hC.up hS.upd) hl) ?_
 rintro _ w2 ⟨rfl, uw2⟩
 have zw2 := uw2.size
 replace hS := hS.up uw2
 refine LW.M rfl (LW.pp (.extract (.t rfl) rfl) (LW.pp (.extract (.t rfl) rfl) (LW.A rfl (LW.A rfl (LW.S (CW.region (LW.M rfl (LW.M rfl ?_))))))))
 refine LW.g rfl rfl rfl rfl rfl rfl rfl (fun hc => PEv.move (.t rfl)) ?_
 refine LW.gc rfl rfl rfl rfl rfl rfl rfl rfl (fun hc => enter_call0 (.cons vQ .nil) (en169)) (fun hc => isValue_any (tgF r time b.Targets).1.Value _) ?_
 intro w3 uw3
 have zw3 := uw3.size
 replace hS := hS.up uw3
 refine LW.pp (.pick_and (.t rfl) (fun hp => (by first | exact .const _ | exact .tmp rfl | exact .cond rfl (by first | assumption | (rw [hp]; rfl) | (rw [hc, hp]; rfl) | simp_all)))) ?_
 refine LW.T ?_
 refine CW.cond (.t rfl) (fun h20 => ?_) (fun h20 => ?_)
 ·replace h20 := dQ h20
  have hv := h20
  refine CW.S (LW.M rfl (LW.A rfl (LW.T (CW.ret (KW.then_ret ?_)))))
  refine KW.ret1 rfl rfl ⟨_, rfl, ?_⟩
  first | exact ⟨by rw [tarF_yes (by simpa using hv)], hS.upd⟩ | exact ⟨by rw [tarF_no (by simpa using hv)], hS.upd⟩
 replace h20 := dQ h20
 have hv := h20
 refine CW.skip (KW.then (CW.S (LW.C (LW.T (CW.ret ?_)))))
 refine KW.ret1 rfl rfl ⟨_, rfl, ?_⟩
 first | exact ⟨by rw [tarF_yes (by simpa using hv)], hS.upd⟩ | exact ⟨by rw [tarF_no (by simpa using hv)], hS.upd⟩
theorem deviation_any (bc : Array Go.Value) (b : Base) (t c r : Int) (x : Fact) (time : Int) (w : World) (hC : BaseC w bc b) (hlM : b.Measures.length ≤ 100000) (hlT : b.Targets.length ≤ 100000) : Ret prog 88 #[.agg (placeC bc t c r), .agg x.cells, vi time] w fun r0 w' => r0 = .tuple #[vi (devF b.Measures b.Targets r x time).1, .bool (devF b.Measures b.Targets r x time).2] ∧ Up w w' := by
 obtain ⟨w0, rfl⟩ : ∃ w0, w0 = w := ⟨_, rfl⟩
 have hS := Sep.start no w0
 refine cS (n := 39) (m := 9) func88 rfl rfl rfl ?_
 refine CW.S ?_
 refine LW.rr (.boxA (.t rfl)) rfl ?_
 rintro _ w1 ⟨B3, rfl, NB3⟩
 have eB3 := NB3.at_
 have zB3 := NB3.size
 replace hS := hS.addB NB3
 change Wx.Sep _ _ _ [_] at hS
 refine LW.rr (.boxA (.t rfl)) rfl ?_
 rintro _ w2 ⟨B4, rfl, NB4⟩
 have eB4 := NB4.at_
 have zB4 := NB4.size
 replace hS := hS.addB NB4
 change Wx.Sep _ _ _ [_, _] at hS
 refine LW.C (LW.C (LW.S (CW.region ?_)))
 refine LW.pp (.fA 0 underlying99 rfl sizeOf32 rfl) ?_
 refine LW.pp (.loadA isAgg32 sizeOf32 (hC.size) (.t rfl) (placeC_base (hS.blk 0 rfl))) ?_
 refine LW.pp (.fA 1 underlying24 rfl sizeOf3 rfl) ?_
 refine LW.pp (.ld isAgg3 rfl ((hS.blk 1 rfl).celln rfl)) ?_
 refine LW.K (eC (.u rfl rfl) (en168)) rfl (Measure_any bc b x.ID _ (hC.up hS.upd) hlM) ?_
 rintro _ w3 ⟨rfl, uw3⟩
 have zw3 := uw3.size
 replace hS := hS.up uw3
 generalize hm : measB b x.ID = m
 refine LW.M rfl (LW.pp (.extract (.t rfl) rfl) (LW.pp (.extract (.t rfl) rfl) ?_))
 refine LW.rr (.allocA zeroValue24) rfl ?_
 rintro _ w4 ⟨B8, rfl, MB8⟩
 refine LW.E (.storeA sizeOf24 rfl (.t rfl) (.t rfl) eQ MB8.blk rfl) ?_
 intro w5 LB8
 have NB8 := MB8.set LB8
 clear LB8 MB8
 have eB8 := NB8.at_
 have zB8 := NB8.size
 replace hS := hS.addB NB8
 change Wx.Sep _ _ _ [_, _, _] at hS
 refine LW.A rfl (LW.S (CW.S (LW.M rfl ?_)))
 refine LW.pp (.not (.t rfl)) ?_
 refine LW.M rfl ?_
 refine LW.g rfl rfl rfl rfl rfl rfl rfl (fun hc => PEv.fA 16 underlying24 rfl sizeOf3 rfl) ?_
 refine LW.g rfl rfl rfl rfl rfl rfl rfl (fun hc => PEv.load isAgg3 vQ ((hS.blk 2 rfl).celln rfl)) ?_
 refine LW.gc rfl rfl rfl rfl rfl rfl rfl rfl (fun hc => enter_call0 (.cons vQ .nil) (en169)) (fun hc => isValue_any (m.getD zeroF).Value _) ?_
 intro w6 uw6
 have zw6 := uw6.size
 replace hS := hS.up uw6
 refine LW.g rfl rfl rfl rfl rfl rfl rfl (fun hc => PEv.not vQ) ?_
 refine LW.pp (.pick_or (.t rfl) (fun hp => (by first | exact .const _ | exact .tmp rfl | exact .cond rfl (by first | assumption | (rw [hp]; rfl) | (rw [hc, hp]; rfl) | simp_all)))) ?_
 refine LW.M rfl ?_
 refine LW.g rfl rfl rfl rfl rfl rfl rfl (fun hc => PEv.fA 5 underlying24 rfl sizeOf3 rfl) ?_
 refine LW.g rfl rfl rfl rfl rfl rfl rfl (fun hc => PEv.load isAgg3 vQ ((hS.blk 2 rfl).celln rfl)) ?_
 refine LW.g rfl rfl rfl rfl rfl rfl rfl (fun hc => PEv.move (.t rfl)) ?_
 refine LW.g rfl rfl rfl rfl rfl rfl rfl (fun hc => PEv.gtr vQ vQ) ?_
 refine LW.pp (.pick_or (.t rfl) (fun hp => (by first | exact .const _ | exact .tmp rfl | exact .cond rfl (by first | assumption | (rw [hp]; rfl) | (rw [hc, hp]; rfl) | simp_all)))) ?_
 refine LW.T ?_
 refine CW.cond (.t rfl) (fun h31 => ?_) (fun h31 => ?_)
 ·replace h31 := dQ h31
  have hv : notCounts m time = true := by simpa [notCounts] using h31
  refine CW.S (LW.C (LW.C (LW.T (CW.ret (KW.then_ret ?_)))))
  refine KW.ret2 rfl rfl rfl ⟨_, rfl, ?_⟩
  first | exact ⟨by subst hm; rw [devF_no hv], hS.upd⟩ | exact ⟨by subst hm; rw [devF_yes hv]; rfl, hS.upd⟩
 replace h31 := dQ h31
 have hv : notCounts m time = false := by simpa [notCounts] using h31
 refine CW.skip (KW.then (CW.seq ?_))
 have hvi := val_in hv
 have hti := tarF_in b.Targets r x.Time
 refine CW.free 7 [.eq (.pointer (some ⟨B8, 16, none⟩)), .eq (vi (m.getD zeroF).Value), .eq (.agg (placeC bc t c r)), .eq (.pointer (some ⟨B4, 5, none⟩)), .eq (vi x.Time), .eq (vi (tarF b.Targets r x.Time)), .eq (vi ((m.getD zeroF).Value - tarF b.Targets r x.Time))] [38] kQ rfl kQ kQ kQ kQ kQ kQ kQ ⟨PhU.eq _, PhU.eq _, PhU.eq _, PhU.eq _, PhU.eq _, PhU.eq _, PhU.eq _, trivial⟩ ?_ ?_
 ·intro W hU0
  have hU := (Up.drew w6).trans hU0
  have hSW := hS.up hU
  refine aC ⟨rfl, TU.p (.fA 16 underlying24 rfl sizeOf3 rfl) rfl⟩ ?_
  refine aC ⟨rfl, TU.p (.ld isAgg3 rfl ((hSW.blk 2 rfl).celln rfl)) rfl⟩ ?_
  refine aC ⟨rfl, TU.p (.loadA isAgg99 sizeOf99 (placeC_size hC t c r) (.t rfl) (hSW.blk 0 rfl).agg) rfl⟩ ?_
  refine aC ⟨rfl, TU.p (.fA 5 underlying24 rfl sizeOf3 rfl) rfl⟩ ?_
  refine aC ⟨rfl, TU.p (.ld isAgg3 rfl ((hSW.blk 1 rfl).celln rfl)) rfl⟩ ?_
  refine aC ⟨rfl, TU.c (eC (.u rfl rfl) (en92)) (ptarget_any bc b t c r x.Time W (hC.up (hS.upd.trans hU)) hlT) sQ⟩ ?_
  refine aC ⟨rfl, TU.p (.vl (v' := vi ((m.getD zeroF).Value - tarF b.Targets r x.Time)) (PEv.sub_w (.t rfl) (.t rfl)) (congrArg (Go.Value.int .i64) (wrap_i64_in oQ oQ))) rfl⟩ ?_
  exact allL.nil
 intro w7 g hU0 hg
 have hU := (Up.drew w6).trans hU0
 have zw7 := hU.size
 replace hS := hS.up hU
 have e38 : g 38 = _ := hg 6 _ 38 cQ rfl rfl
 dsimp only [List.map]
 rw [e38]
 clear e38 hg
 refine LW.A rfl (LW.C (LW.T (CW.ret ?_)))
 refine KW.ret2 rfl rfl rfl ⟨_, rfl, ?_⟩
 first | exact ⟨by subst hm; rw [devF_no hv], hS.upd⟩ | exact ⟨by subst hm; rw [devF_yes hv]; rfl, hS.upd⟩
end Go.Proofs.YtbbpkdlehlamlaaGreatDoor
end
section
namespace Go.Wx
theorem any_at {qs : List Cnd} {k : Nat} {q : Cnd} {g : Cnd → Bool} (h : qs[k]? = some q) (hx : g q = true) : qs.any g = true := List.any_eq_true.2 ⟨q, List.mem_of_getElem? h, hx⟩
theorem any_none {qs : List Cnd} {g : Cnd → Bool} (h : ∀ y ∈ qs, g y = false) : qs.any g = false := List.any_eq_false.2 fun y hy => by rw [h y hy]; exact Bool.false_ne_true
theorem not_allQ (qs : List Cnd) (x : Fact) : (qs.any fun q => !q.p x) = !allQ qs x := by
 unfold allQ
 rw [List.not_all_eq_any_not]
theorem filter_allQ (qs : List Cnd) (l : List Fact) : (l.filter fun x => !(!allQ qs x)) = l.filter fun x => allQ qs x := by simp only [Bool.not_not]
theorem CndsOk.cons {P : Program} {w : World} {q : Cnd} {qs : List Cnd} (h : CondOk P w q.v q.p) (hs : CndsOk P w qs) : CndsOk P w (q :: qs) := fun y hy => (List.mem_cons.1 hy).elim (fun e => e ▸ h) (fun h => hs y h)
theorem CndsOk.nil {P : Program} {w : World} : CndsOk P w [] := fun _ h => by cases h
def rnsF (b : Base) (t c r : Int) : List Fact := (runsB b t c).filter fun x => decide (x.Recipe = r)
theorem runsB_len (b : Base) (t c : Int) : (runsB b t c).length ≤ b.Processes.length := by
 unfold runsB
 rw [show (sortK runK (b.Processes.filter (runP t c))).length = (b.Processes.filter (runP t c)).length from (sortK_sts _).same.length]
 exact List.length_filter_le _ _
theorem rnsF_len (b : Base) (t c r : Int) : (rnsF b t c r).length ≤ b.Processes.length := Nat.le_trans (List.length_filter_le _ _) (runsB_len b t c)
end Go.Wx
namespace Go.Proofs.YtbbpkdlehlamlaaGreatDoor
open Go.Proofs.Tryz
open Go.Wx Go.RowKit
theorem until1_any (x : Fact) (time : Int) (B : Nat) (w : World) (hB : Blk w B #[vi time] 3) : Ret prog 102 #[.agg x.cells, .pointer (some ⟨B, 0, none⟩)] w fun r w' => r = .bool (decide (x.Time ≤ time)) ∧ Up w w' := by
 have hW := Up.refl w
 refine cS (n := 8) (m := 9) func102 rfl rfl rfl ?_
 refine CW.S ?_
 refine LW.rr (.boxA (.t rfl)) rfl ?_
 rintro _ w1 ⟨B2, rfl, NB2⟩
 have eB2 := NB2.at_
 have zB2 := NB2.size
 replace hB := hB.up NB2.up
 replace hW := hW.up NB2.up
 have hB2 := NB2.blk
 refine LW.C (LW.S (CW.region ?_))
 refine LW.pp (.fA 5 underlying24 rfl sizeOf3 rfl) ?_
 refine LW.pp (.ld isAgg3 rfl (hB2.celln rfl)) ?_
 refine LW.pp (.ld isAgg3 rfl (hB.celln rfl)) ?_
 refine LW.pp (.leq (.t rfl) (.t rfl)) ?_
 refine LW.A rfl (LW.T (CW.ret ?_))
 refine KW.ret1 rfl rfl ⟨_, rfl, ?_⟩
 exact ⟨rfl, hW⟩
theorem runs1_any (bc : Array Go.Value) (b : Base) (t c r : Int) (x : Fact) (Bp : Nat) (w0 w : World) (hC : BaseC w0 bc b) (hBp : Blk w Bp (placeC bc t c r) 99) : Ret prog 101 #[.agg x.cells, .pointer (some ⟨Bp, 0, none⟩)] w fun r0 w' => r0 = .bool (decide (x.Recipe = r)) ∧ Up w w' := by
 have hW := Up.refl w
 refine cS (n := 9) (m := 9) func101 rfl rfl rfl ?_
 refine CW.S ?_
 refine LW.rr (.boxA (.t rfl)) rfl ?_
 rintro _ w1 ⟨B2, rfl, NB2⟩
 have eB2 := NB2.at_
 have zB2 := NB2.size
 replace hBp := hBp.up NB2.up
 replace hW := hW.up NB2.up
 have hB2 := NB2.blk
 refine LW.C (LW.S (CW.region ?_))
 refine LW.pp (.fA 14 underlying24 rfl sizeOf3 rfl) ?_
 refine LW.pp (.ld isAgg3 rfl (hB2.celln rfl)) ?_
 refine LW.pp (.fA 13 underlying99 rfl sizeOf3 rfl) ?_
 refine LW.pp (.ld isAgg3 rfl (placeC_at hBp hC 2 rfl)) ?_
 refine LW.pp (.eql (.t rfl) (.t rfl)) ?_
 refine LW.A rfl (LW.T (CW.ret ?_))
 refine KW.ret1 rfl rfl ⟨_, rfl, ?_⟩
 exact ⟨rfl, hW⟩
theorem here_any (bc : Array Go.Value) (b : Base) (t c r : Int) (x : Fact) (Bp : Nat) (w0 w : World) (hC : BaseC w0 bc b) (hBp : Blk w Bp (placeC bc t c r) 99) : Ret prog 85 #[.agg x.cells, .pointer (some ⟨Bp, 0, none⟩)] w fun r0 w' => r0 = .bool (decide (x.Tool = t) && decide (x.Chamber = c)) ∧ Up w w' := by
 have hW := Up.refl w
 refine cS (n := 16) (m := 9) func85 rfl rfl rfl ?_
 refine CW.S ?_
 refine LW.rr (.boxA (.t rfl)) rfl ?_
 rintro _ w1 ⟨B2, rfl, NB2⟩
 have eB2 := NB2.at_
 have zB2 := NB2.size
 replace hBp := hBp.up NB2.up
 replace hW := hW.up NB2.up
 have hB2 := NB2.blk
 refine LW.C (LW.S (CW.region ?_))
 refine LW.pp (.fA 11 underlying24 rfl sizeOf3 rfl) ?_
 refine LW.pp (.ld isAgg3 rfl (hB2.celln rfl)) ?_
 refine LW.pp (.fA 11 underlying99 rfl sizeOf3 rfl) ?_
 refine LW.pp (.ld isAgg3 rfl (placeC_at hBp hC 0 rfl)) ?_
 refine LW.pp (.eql (.t rfl) (.t rfl)) ?_
 refine LW.M rfl ?_
 refine LW.g rfl rfl rfl rfl rfl rfl rfl (fun hc => PEv.fA 12 underlying24 rfl sizeOf3 rfl) ?_
 refine LW.g rfl rfl rfl rfl rfl rfl rfl (fun hc => PEv.load isAgg3 vQ (hB2.celln rfl)) ?_
 refine LW.g rfl rfl rfl rfl rfl rfl rfl (fun hc => PEv.fA 12 underlying99 rfl sizeOf3 rfl) ?_
 refine LW.g rfl rfl rfl rfl rfl rfl rfl (fun hc => PEv.load isAgg3 vQ (placeC_at hBp hC 1 rfl)) ?_
 refine LW.g rfl rfl rfl rfl rfl rfl rfl (fun hc => PEv.eql vQ vQ) ?_
 refine LW.pp (.pick_and (.t rfl) (fun hp => (by first | exact .const _ | exact .tmp rfl | exact .cond rfl (by first | assumption | (rw [hp]; rfl) | (rw [hc, hp]; rfl) | simp_all)))) ?_
 refine LW.A rfl (LW.T (CW.ret ?_))
 refine KW.ret1 rfl rfl ⟨_, rfl, ?_⟩
 exact ⟨by simp, hW⟩
theorem since_any (x y : Fact) (B : Nat) (w : World) (hB : Blk w B y.cells 24) : Ret prog 86 #[.agg x.cells, .pointer (some ⟨B, 0, none⟩)] w fun r w' => r = .bool (decide (y.Time ≤ x.Time)) ∧ Up w w' := by
 have hW := Up.refl w
 refine cS (n := 9) (m := 9) func86 rfl rfl rfl ?_
 refine CW.S ?_
 refine LW.rr (.boxA (.t rfl)) rfl ?_
 rintro _ w1 ⟨B2, rfl, NB2⟩
 have eB2 := NB2.at_
 have zB2 := NB2.size
 replace hB := hB.up NB2.up
 replace hW := hW.up NB2.up
 have hB2 := NB2.blk
 refine LW.C (LW.S (CW.region ?_))
 refine LW.pp (.fA 5 underlying24 rfl sizeOf3 rfl) ?_
 refine LW.pp (.ld isAgg3 rfl (hB2.celln rfl)) ?_
 refine LW.pp (.fA 5 underlying24 rfl sizeOf3 rfl) ?_
 refine LW.pp (.ld isAgg3 rfl (hB.celln rfl)) ?_
 refine LW.pp (.geq (.t rfl) (.t rfl)) ?_
 refine LW.A rfl (LW.T (CW.ret ?_))
 refine KW.ret1 rfl rfl ⟨_, rfl, ?_⟩
 exact ⟨by first | rfl | simp, hW⟩
theorem until_any (time : Int) (w : World) : Ret prog 52 #[vi time] w fun r w' => CondOk prog w' r (fun x => decide (x.Time ≤ time)) ∧ Up w w' := by
 obtain ⟨w0, rfl⟩ : ∃ w0, w0 = w := ⟨_, rfl⟩
 have hS := Sep.start no w0
 refine cS (n := 4) (m := 9) func52 rfl rfl rfl ?_
 refine CW.S ?_
 refine LW.rr (.box1 (.t rfl) rfl) rfl ?_
 rintro _ w1 ⟨B1, rfl, NB1⟩
 have eB1 := NB1.at_
 have zB1 := NB1.size
 replace hS := hS.addB NB1
 change Wx.Sep _ _ _ [_] at hS
 refine LW.C (LW.S (CW.region ?_))
 refine LW.pp (.makeFunc (.cons (.t rfl) .nil)) ?_
 refine LW.A rfl (LW.T (CW.ret ?_))
 refine KW.ret1 rfl rfl ⟨_, rfl, ?_⟩
 exact ⟨⟨102, #[.pointer (some ⟨B1, 0, none⟩)], rfl, en102, fun W u x => until1_any x time B1 W ((hS.blk 0 rfl).up u)⟩, hS.upd⟩
theorem not_any (v : Go.Value) (p : Fact → Bool) (x : Fact) (B : Nat) (w : World) (hc : CondOk prog w v p) (hB : Blk w B x.cells 24) : Ret prog 97 #[v, .pointer (some ⟨B, 0, none⟩)] w fun r w' => r = .bool (!p x) ∧ Up w w' := by
 have hW := Up.refl w
 obtain ⟨cf, lb, rfl, hen, hp⟩ := hc
 refine cS (n := 8) (m := 9) func97 rfl rfl rfl ?_
 refine CW.S (LW.C (LW.S (CW.region (LW.M rfl ?_))))
 refine LW.pp (.la isAgg24 sizeOf24 rfl (hB.agg)) ?_
 refine LW.K (enter_call (.t rfl) (.cons (.t rfl) .nil) (hen)) rfl (hp _ hW x) ?_
 rintro _ w1 ⟨rfl, uw1⟩
 have zw1 := uw1.size
 replace hB := hB.up uw1
 replace hW := hW.up uw1
 refine LW.pp (.not (.t rfl)) ?_
 refine LW.A rfl (LW.T (CW.ret ?_))
 refine KW.ret1 rfl rfl ⟨_, rfl, ?_⟩
 exact ⟨rfl, hW⟩
theorem indexC_any (cf : Nat) (lb : Array Go.Value) (g : Cnd → Bool) (hen : ∀ args w, (callFunc cf args).run prog w = .ok (.enter cf args) w) (ad : Option Addr) (cp : Nat) (l : List Cnd) (w : World) (hE0 : Els w ad 1 Cnd.cells l) (hl : l.length ≤ 100000) (hp : ∀ W, Up w W → ∀ q ∈ l, Ret prog cf (#[q.v] ++ lb) W fun r W' => r = .bool (g q) ∧ Up W W') : Ret prog 178 #[.slice ad l.length cp, .func (.func cf) #[] lb] w fun r w' => ∃ i, r = vi i ∧ decide (0 ≤ i) = l.any g ∧ Up w w' := by
 have hW := Up.refl w
 obtain ⟨w0, rfl⟩ : ∃ w0, w0 = w := ⟨_, rfl⟩
 refine cS (n := 19) (m := 9) func178 rfl rfl rfl ?_
 refine CW.S (LW.C (LW.S (CW.S (LW.M rfl ?_))))
 refine LW.pp (.lenS underlying169 (.t rfl)) ?_
 refine LW.pp (.move (.const _)) ?_
 refine LW.T (CW.block ?_)
 refine CW.loopB (σ := Nat) (fun s w => (s ≤ l.length) ∧ (∀ y ∈ l.take s, g y = false) ∧ (Up w0 w)) (fun s => [(8, .eq (vi (s : Int)))]) ([(0, .eq _), (1, .eq _), (7, .eq _)]) (fun s => l.length - s) 0 ?_ ⟨rfl, rfl, rfl, rfl, trivial⟩ ?_
 ·exact ⟨Nat.zero_le _, by simp, hW⟩
 rintro k w1 ⟨hk, hn, hW⟩
 refine CW.S ?_
 refine LW.pp (.lss (.t rfl) (.t rfl)) ?_
 refine LW.S ?_
 refine CW.cond (.t rfl) (fun h9 => ?_) (fun h9 => ?_)
 ·replace h9 := dQ h9
  refine CW.skip (KW.then (CW.seq (CW.block (CW.S (LW.M rfl (LW.A rfl (LW.S ?_)))))))
  have hE := Els.up hE0 hW
  refine CW.region (LW.M rfl (LW.M rfl (LW.M rfl ?_)))
  obtain ⟨x, hx⟩ := getElem?_of_lt (xs := l) (i := k) oQ
  obtain ⟨Bx, ox, ax, hcx⟩ := hE _ x hx
  refine LW.pp (.indexAddr' underlying169 sizeOf107 (.t rfl) (.t rfl) oQ ax) ?_
  refine LW.pp (.ld isAgg107 rfl ((hcx 0 _ rfl))) ?_
  refine LW.K (enter_call (.t rfl) (.cons (.t rfl) .nil) (hen)) rfl (hp _ hW x (List.mem_of_getElem? hx)) ?_
  rintro _ w2 ⟨rfl, uw2⟩
  have zw2 := uw2.size
  replace hW := hW.up uw2
  replace hcx := hcx.up uw2
  refine LW.T ?_
  refine CW.cond (.t rfl) (fun h16 => ?_) (fun h16 => ?_)
  ·replace h16 := dQ h16
   refine CW.S (LW.M rfl (LW.A rfl (LW.T (CW.ret (KW.block_ret (KW.then_ret (KW.then_ret (KW.block_ret (KW.then_ret ?_)))))))))
   refine KW.ret1 rfl rfl ⟨_, rfl, ?_⟩
   first | exact ⟨_, rfl, by rw [any_at hx (by simpa using h16)]; exact decide_eq_true oQ, hW⟩ | exact ⟨-1, rfl, by rw [any_none (by rw [show k = l.length by omega, List.take_length] at hn; exact hn)]; rfl, hW⟩
  replace h16 := dQ h16
  refine CW.skip (KW.inBlock (KW.then (CW.region ?_)))
  refine LW.pp (.inc (.t rfl) oQ) ?_
  refine LW.M rfl (LW.nil (KW.round ?_))
  exact ⟨k + 1, ⟨by omega, anyN_take hx hn (by simpa using h16), hW⟩, ⟨rfl, rfl, rfl, rfl, trivial⟩, by first | omega | (dsimp only; omega)⟩
 replace h9 := dQ h9
 refine CW.exit (KW.then_exit (KW.then_exit (KW.block_hit (KW.then (CW.S (LW.C (LW.T (CW.ret ?_))))))))
 refine KW.ret1 rfl rfl ⟨_, rfl, ?_⟩
 first | exact ⟨_, rfl, by rw [any_at hx (by simpa using h16)]; exact decide_eq_true oQ, hW⟩ | exact ⟨-1, rfl, by rw [any_none (by rw [show k = l.length by omega, List.take_length] at hn; exact hn)]; rfl, hW⟩
theorem containsC_any (cf : Nat) (lb : Array Go.Value) (g : Cnd → Bool) (hen : ∀ args w, (callFunc cf args).run prog w = .ok (.enter cf args) w) (ad : Option Addr) (cp : Nat) (l : List Cnd) (w : World) (hE0 : Els w ad 1 Cnd.cells l) (hl : l.length ≤ 100000) (hp : ∀ W, Up w W → ∀ q ∈ l, Ret prog cf (#[q.v] ++ lb) W fun r W' => r = .bool (g q) ∧ Up W W') : Ret prog 96 #[.slice ad l.length cp, .func (.func cf) #[] lb] w fun r w' => r = .bool (l.any g) ∧ Up w w' := by
 have hW := Up.refl w
 obtain ⟨w0, rfl⟩ : ∃ w0, w0 = w := ⟨_, rfl⟩
 refine cS (n := 9) (m := 9) func96 rfl rfl rfl ?_
 refine CW.S (LW.C (LW.S (CW.region (LW.M rfl (LW.M rfl ?_)))))
 refine LW.K (eC (.u rfl rfl) (en178)) rfl (indexC_any cf lb g hen ad cp l _ (Els.up hE0 hW) hl (fun W u q hq => hp W (hW.trans u) q hq)) ?_
 rintro _ w1 ⟨i, rfl, hi, uw1⟩
 have zw1 := uw1.size
 replace hW := hW.up uw1
 refine LW.pp (.geq (.t rfl) (.const _)) ?_
 refine LW.A rfl (LW.T (CW.ret ?_))
 refine KW.ret1 rfl rfl ⟨_, rfl, ?_⟩
 exact ⟨by rw [hi], hW⟩
theorem all1_any (x : Fact) (B : Nat) (ad : Option Addr) (cp : Nat) (qs : List Cnd) (w : World) (hB : Blk w B #[.slice ad qs.length cp] 169) (hE0 : Els w ad 1 Cnd.cells qs) (hl : qs.length ≤ 100000) (hq : CndsOk prog w qs) : Ret prog 95 #[.agg x.cells, .pointer (some ⟨B, 0, none⟩)] w fun r w' => r = .bool (!allQ qs x) ∧ Up w w' := by
 obtain ⟨w0, rfl⟩ : ∃ w0, w0 = w := ⟨_, rfl⟩
 have hS := Sep.start no w0
 refine cS (n := 7) (m := 9) func95 rfl rfl rfl ?_
 refine CW.S ?_
 refine LW.rr (.boxA (.t rfl)) rfl ?_
 rintro _ w1 ⟨B2, rfl, NB2⟩
 have eB2 := NB2.at_
 have zB2 := NB2.size
 replace hS := hS.addB NB2
 change Wx.Sep _ _ _ [_] at hS
 refine LW.C (LW.S (CW.region ?_))
 refine LW.pp (.ld isAgg169 rfl ((hB.up hS.upd).celln rfl)) ?_
 refine LW.pp (.makeFunc (.cons (.t rfl) .nil)) ?_
 refine LW.K (eC (.u rfl rfl) (en96)) rfl (containsC_any 97 #[.pointer (some ⟨B2, 0, none⟩)] (fun q => !q.p x) en97 ad cp qs _ (Els.up hE0 hS.upd) hl (fun W u q hm => not_any q.v q.p x B2 W ((hq q hm).up (hS.upd.trans u)) ((hS.blk 0 rfl).up u))) ?_
 rintro _ w2 ⟨rfl, uw2⟩
 have zw2 := uw2.size
 replace hS := hS.up uw2
 refine LW.A rfl (LW.T (CW.ret ?_))
 refine KW.ret1 rfl rfl ⟨_, rfl, ?_⟩
 exact ⟨by rw [not_allQ], hS.upd⟩
theorem all_any (ad : Option Addr) (cp : Nat) (l : List Fact) (adf : Option Addr) (cpf : Nat) (qs : List Cnd) (w : World) (hE0 : Els w ad 19 Fact.cells l) (hl : l.length ≤ 100000) (hEf : Els w adf 1 Cnd.cells qs) (hlf : qs.length ≤ 100000) (hq : CndsOk prog w qs) : Ret prog 50 #[.slice ad l.length cp, .slice adf qs.length cpf] w fun r w' => OwnS w' w.heap.size 24 19 Fact.cells r (l.filter fun x => allQ qs x) ∧ Up w w' := by
 obtain ⟨w0, rfl⟩ : ∃ w0, w0 = w := ⟨_, rfl⟩
 have hS := Sep.start no w0
 refine cS (n := 11) (m := 9) func50 rfl rfl rfl ?_
 refine CW.S ?_
 refine LW.rr (.box1 (.t rfl) rfl) rfl ?_
 rintro _ w1 ⟨B3, rfl, NB3⟩
 have eB3 := NB3.at_
 have zB3 := NB3.size
 replace hS := hS.addB NB3
 change Wx.Sep _ _ _ [_] at hS
 refine LW.C (LW.S (CW.region ?_))
 refine LW.pp (.makeFunc (.cons (.t rfl) .nil)) ?_
 refine LW.A rfl (LW.S (CW.region (LW.M rfl ?_)))
 refine LW.K (eC (.o rfl) (en99)) rfl (cloneF_any ad cp l _ (Els.up hE0 hS.upd) hl) ?_
 rintro v8 w2 ⟨hO8, uw2⟩
 have zw2 := uw2.size
 replace hS := hS.add uw2 (A' := aOwn 24 19 Fact.cells v8 l) (hO8.mono (Nat.zero_le _)) (fun i h => (hO8.base i h))
 change Wx.Sep _ _ _ [_, _] at hS
 clear hO8
 obtain ⟨ad8, cp8, rfl, _⟩ := (hS.own 1 rfl).sl (fun _ => rfl)
 have hB3k := hS.ne (i := 0) (j := 1) cQ rfl rfl
 have hBk := hS.blk 0 rfl
 have hftk := hS.foot 1 rfl
 have hupk := hS.upd
 have hfrk := hS.fr
 refine LW.M rfl ?_
 refine LW.K (eC (.u rfl rfl) (en98)) rfl (deleteF_any 95 #[.pointer (some ⟨B3, 0, none⟩)] (fun x => !allQ qs x) en95 ad8 cp8 l _ (hS.own 1 rfl) hl (fun W f x => all1_any x B3 adf cpf qs W ((f.block B3 hBk.lt (hB3k B3 rfl)).trans hBk) (Els.up hEf ((hfrk.next f hftk).toUp (fun _ h => h))) hlf (hq.up ((hfrk.next f hftk).toUp (fun _ h => h))))) ?_
 rintro v10 w3 uw3
 have zw3 := uw3.fr.size
 replace hS := hS.stp 1 rfl uw3
 change Wx.Sep _ _ _ [_, _] at hS
 refine LW.A rfl (LW.T (CW.ret ?_))
 refine KW.ret1 rfl rfl ⟨_, rfl, ?_⟩
 exact ⟨by rw [← filter_allQ]; exact (hS.own 1 rfl).rebase (fun i h => (hS.foot 1 rfl i h).resolve_left (fun h => h)), hS.upd⟩
theorem runs_any (bc : Array Go.Value) (b : Base) (t c r : Int) (w : World) (hC : BaseC w bc b) (hl : b.Processes.length ≤ 100000) : Ret prog 51 #[.agg (placeC bc t c r)] w fun r0 w' => OwnS w' w.heap.size 24 19 Fact.cells r0 (rnsF b t c r) ∧ Up w w' := by
 obtain ⟨w0, rfl⟩ : ∃ w0, w0 = w := ⟨_, rfl⟩
 have hS := Sep.start no w0
 refine cS (n := 13) (m := 9) func51 rfl rfl rfl ?_
 refine CW.S ?_
 refine LW.rr (.boxA (.t rfl)) rfl ?_
 rintro _ w1 ⟨B1, rfl, NB1⟩
 have eB1 := NB1.at_
 have zB1 := NB1.size
 replace hS := hS.addB NB1
 change Wx.Sep _ _ _ [_] at hS
 refine LW.C (LW.S (CW.region ?_))
 refine LW.pp (.fA 0 underlying99 rfl sizeOf32 rfl) ?_
 refine LW.pp (.loadA isAgg32 sizeOf32 (hC.size) (.t rfl) (placeC_base (hS.blk 0 rfl))) ?_
 refine LW.pp (.fA 11 underlying99 rfl sizeOf3 rfl) ?_
 refine LW.pp (.ld isAgg3 rfl (placeC_at (hS.blk 0 rfl) hC 0 rfl)) ?_
 refine LW.pp (.fA 12 underlying99 rfl sizeOf3 rfl) ?_
 refine LW.pp (.ld isAgg3 rfl (placeC_at (hS.blk 0 rfl) hC 1 rfl)) ?_
 refine LW.K (eC (.cons (.t rfl) (.cons (.t rfl) (.cons (.t rfl) .nil))) (en100)) rfl (Runs_any bc b t c _ (hC.up hS.upd) hl) ?_
 rintro v9 w2 ⟨hO9, uw2⟩
 have zw2 := uw2.size
 replace hS := hS.up uw2
 obtain ⟨ad9, cp9, rfl, hE9_⟩ := hO9.sl (fun _ => rfl)
 have hE9 : Els w2 ad9 19 Fact.cells (runsB b t c) := hE9_
 clear hO9 hE9_
 have hrl := runsB_len b t c
 refine LW.pp (.makeFunc (.cons (.t rfl) .nil)) ?_
 refine LW.rr (.buildSlice (xs := [(⟨101, #[.pointer (some ⟨B1, 0, none⟩)], fun x => decide (x.Recipe = r)⟩ : Cnd)]) (enc := Cnd.cells) (mk := Cnd.v) underlying169 sizeOf107 zeroValue107 rfl cQ (fun _ => rfl) (fun _ => rfl) (.cons (.t rfl) .nil) rfl) rfl ?_
 rintro _ w3 ⟨B11, cB11, rfl, NB11, yB11, xB11⟩
 have eB11 := NB11.at_
 have zB11 := NB11.size
 replace hS := hS.up NB11.up
 replace hE9 := hE9.up NB11.up
 have hE11 := xB11
 refine LW.K (eC (.u rfl rfl) (en50)) rfl (all_any ad9 cp9 (runsB b t c) _ _ _ _ hE9 oQ hE11 (by simp) (CndsOk.cons ⟨101, #[.pointer (some ⟨B1, 0, none⟩)], rfl, en101, fun W u x => runs1_any bc b t c r x B1 _ W hC ((hS.blk 0 rfl).up u)⟩ CndsOk.nil)) ?_
 rintro v12 w4 ⟨hO12, uw4⟩
 have zw4 := uw4.size
 replace hS := hS.up uw4
 replace hE9 := hE9.up uw4
 simp only [allQ, List.all_cons, List.all_nil, Bool.and_true] at hO12
 refine LW.A rfl (LW.T (CW.ret ?_))
 refine KW.ret1 rfl rfl ⟨_, rfl, ?_⟩
 exact ⟨hO12.mono oQ, hS.upd⟩
end Go.Proofs.YtbbpkdlehlamlaaGreatDoor
end
section
namespace Go.Wx
theorem addQ {a b : Int} : redF (addN (redF a 4) (redF b 4)) ((redF a 4).d * (redF b 4).d) = redF (a + b) 4 := by
 have h1 := redF_mul (n := a) (d := 4) cQ
 have h2 := redF_mul (n := b) (d := 4) cQ
 have p1 := redF_d (n := a) (d := 4) cQ
 have p2 := redF_d (n := b) (d := 4) cQ
 generalize redF a 4 = x at *
 generalize redF b 4 = y at *
 refine redF_eq (Int.mul_pos p1 p2) cQ ?_
 show (x.n * y.d + y.n * x.d) * 4 = (a + b) * (x.d * y.d)
 calc (x.n * y.d + y.n * x.d) * 4 = (x.n * 4) * y.d + (y.n * 4) * x.d := by rw [Int.add_mul]; ac_rfl
   _ = (a * x.d) * y.d + (b * y.d) * x.d := by rw [h1, h2]
   _ = (a + b) * (x.d * y.d) := by rw [Int.add_mul]; ac_rfl
theorem addQ_fits {a b : Int} (h : (a + b).natAbs ≤ 1000000000) : fitsF (addN (redF a 4) (redF b 4)) ((redF a 4).d * (redF b 4).d) = true := by
 have h1 := redF_mul (n := a) (d := 4) cQ
 have h2 := redF_mul (n := b) (d := 4) cQ
 have p1 := redF_d (n := a) (d := 4) cQ
 have p2 := redF_d (n := b) (d := 4) cQ
 generalize redF a 4 = x at *
 generalize redF b 4 = y at *
 refine fits_eq (v' := 4) (u' := a + b) (Int.mul_pos p1 p2) cQ ?_ (fits_small h cQ)
 show (x.n * y.d + y.n * x.d) * 4 = (a + b) * (x.d * y.d)
 calc (x.n * y.d + y.n * x.d) * 4 = (x.n * 4) * y.d + (y.n * 4) * x.d := by rw [Int.add_mul]; ac_rfl
   _ = (a * x.d) * y.d + (b * y.d) * x.d := by rw [h1, h2]
   _ = (a + b) * (x.d * y.d) := by rw [Int.add_mul]; ac_rfl
theorem addQ_mk {a b : Int} (h : (a + b).natAbs ≤ 1000000000) : mkF (addN (redF a 4) (redF b 4)) ((redF a 4).d * (redF b 4).d) = (redF (a + b) 4, 0) := by rw [mkF_fits (addQ_fits h), addQ]
def negR (a : Rt) : Rt := ⟨-a.n, a.d⟩
theorem redF1 (T : Int) : redF T 1 = redF (4 * T) 4 := redF_eq cQ cQ oQ
theorem negQ (e : Int) : negR (redF e 4) = redF (-e) 4 := by
 refine rt_uniq (redF_d cQ) (redF_d cQ) ?_ (redF_co cQ) ?_
 · show gcdA (-(redF e 4).n) (redF e 4).d = 1
   unfold gcdA
   rw [Int.natAbs_neg]; exact redF_co cQ
 have h1 := redF_mul (n := e) (d := 4) cQ
 have h2 := redF_mul (n := -e) (d := 4) cQ
 generalize redF (-e) 4 = y at *
 have p : (redF e 4).d = (redF e 4).d := rfl
 show -(redF e 4).n * y.d = y.n * (redF e 4).d
 generalize redF e 4 = x at *
 refine Int.eq_of_mul_eq_mul_right (show (4 : Int) ≠ 0 by decide) ?_
 calc -x.n * y.d * 4 = -(x.n * 4) * y.d := by rw [Int.neg_mul, Int.neg_mul, Int.neg_mul]; ac_rfl
   _ = (-e * y.d) * x.d := by rw [h1, Int.neg_mul, Int.neg_mul, Int.neg_mul]; ac_rfl
   _ = y.n * x.d * 4 := by rw [← h2]; ac_rfl
theorem subQ_mk {T e : Int} (h : (4 * T - e).natAbs ≤ 1000000000) : mkF (addN (redF T 1) (negR (redF e 4))) ((redF T 1).d * (redF e 4).d) = (redF (4 * T - e) 4, 0) := by
 have hd : (redF e 4).d = (redF (-e) 4).d := by rw [← negQ]; rfl
 rw [hd, negQ, redF1, show 4 * T - e = 4 * T + -e by omega]
 exact addQ_mk (by rw [show 4 * T + -e = 4 * T - e by omega]; exact h)
theorem rndQ (e : Int) : rndN (redF e 4) 1000 = 250 * e := by
 have h1 := redF_mul (n := e) (d := 4) cQ
 have p1 := redF_d (n := e) (d := 4) cQ
 generalize redF e 4 = x at *
 show (2 * x.n * 1000 + x.d) / (2 * x.d) = 250 * e
 have e1 : 2 * x.n * 1000 + x.d = x.d + (2 * x.d) * (250 * e) := by
   have : 2 * x.n * 1000 = 500 * (x.n * 4) := by omega
   have h3 : 2 * x.d * (250 * e) = (2 * 250) * (e * x.d) := by ac_rfl
   rw [this, h1, h3]
   omega
 rw [e1, Int.add_mul_ediv_left _ _ oQ, Int.ediv_eq_zero_of_lt oQ (by omega)]
 omega
theorem rndQ_mk {e : Int} (h : e.natAbs ≤ 1000000000) : mkF (rndN (redF e 4) 1000) 1000 = (redF e 4, 0) := by
 rw [rndQ, mkF_fits (fits_eq (v' := 4) (u' := e) cQ cQ oQ (fits_small h cQ)), redF_eq (u' := e) (v' := 4) cQ cQ (by omega)]
theorem redQ_ok {e : Int} (h : e.natAbs ≤ 1000000000) : (redF e 4).ok := redF_ok cQ (fits_small h cQ)
theorem red1_ok {e : Int} (h : e.natAbs ≤ 1000000000) : (redF e 1).ok := redF_ok cQ (fits_small h cQ)
def clears (d : Int × Bool) : Bool := d.2 && (decide (d.1 < -2) || decide (2 < d.1))
def sumStep (M T : List Fact) (r t : Int) (s : Int × List Int) (x : Fact) : Int × List Int := if clears (devF M T r x t) then (s.1 + (devF M T r x t).1, s.2 ++ [x.ID]) else s
def sumF (M T : List Fact) (r t : Int) (l : List Fact) : Int × List Int := l.foldl (sumStep M T r t) (0, [])
theorem sumF_take {M T : List Fact} {r t : Int} {l : List Fact} {k : Nat} {x : Fact} (h : l[k]? = some x) : sumF M T r t (l.take (k + 1)) = sumStep M T r t (sumF M T r t (l.take k)) x := by
 rw [take_succ_of h, sumF, List.foldl_append]; rfl
theorem sum_yes {M T : List Fact} {r t : Int} {s : Int × List Int} {x : Fact} (h : clears (devF M T r x t) = true) : sumStep M T r t s x = (s.1 + (devF M T r x t).1, s.2 ++ [x.ID]) := if_pos h
theorem sum_no {M T : List Fact} {r t : Int} {s : Int × List Int} {x : Fact} (h : clears (devF M T r x t) = false) : sumStep M T r t s x = s := if_neg (by rw [h]; exact Bool.false_ne_true)
theorem sum_bd (M T : List Fact) (r t : Int) : ∀ (l : List Fact) (s : Int × List Int), -2000000 * (l.length : Int) ≤ (l.foldl (sumStep M T r t) s).1 - s.1 ∧ (l.foldl (sumStep M T r t) s).1 - s.1 ≤ 2000000 * (l.length : Int) ∧ (l.foldl (sumStep M T r t) s).2.length ≤ s.2.length + l.length
 | [], s => by simp
 | x :: l, s => by
   have h := sum_bd M T r t l (sumStep M T r t s x)
   have hd := devF_in M T r x t
   rw [List.foldl_cons]
   generalize l.foldl (sumStep M T r t) (sumStep M T r t s x) = q at *
   have hs : -2000000 ≤ (sumStep M T r t s x).1 - s.1 ∧ (sumStep M T r t s x).1 - s.1 ≤ 2000000 ∧ (sumStep M T r t s x).2.length ≤ s.2.length + 1 := by
     cases hc : clears (devF M T r x t) with
     | true => rw [sum_yes hc]; dsimp only; rw [List.length_append]; simp only [List.length_cons, List.length_nil]; omega
     | false => rw [sum_no hc]; omega
   rw [List.length_cons]
   push_cast
   omega
theorem sumF_bd (M T : List Fact) (r t : Int) (l : List Fact) : -2000000 * (l.length : Int) ≤ (sumF M T r t l).1 ∧ (sumF M T r t l).1 ≤ 2000000 * (l.length : Int) ∧ (sumF M T r t l).2.length ≤ l.length := by
 have h := sum_bd M T r t l (0, [])
 unfold sumF
 simp only [Int.sub_zero, List.length_nil, Nat.zero_add] at h
 exact h
def sinceF (rs a : List Fact) : List Fact := rs.foldl (fun a y => a.filter fun x => decide (y.Time ≤ x.Time)) a
theorem sinceF_take {rs a : List Fact} {k : Nat} {y : Fact} (h : rs[k]? = some y) : sinceF (rs.take (k + 1)) a = (sinceF (rs.take k) a).filter fun x => decide (y.Time ≤ x.Time) := by
 rw [take_succ_of h, sinceF, List.foldl_append]; rfl
theorem sinceF_len (rs : List Fact) : ∀ a : List Fact, (sinceF rs a).length ≤ a.length := by
 induction rs with
 | nil => exact fun _ => Nat.le_refl _
 | cons y rs ih => exact fun a => Nat.le_trans (ih _) (List.length_filter_le _ _)
def hereF (t c time : Int) (x : Fact) : Bool := decide (x.Tool = t) && decide (x.Chamber = c) && decide (x.Time ≤ time)
def resL (b : Base) (t c time : Int) : List Fact := b.Resets.filter (hereF t c time)
def parF (T E : Int) : Rt := clampF (redF (4 * T - E) 4) (redF (-10000) 1) (redF 10000 1)
structure Dec where
 run : Int
 par : Rt
 est : Rt
 uses : List Int
def decF (b : Base) (t c r time : Int) (ahead : List Fact) : Dec :=
 ⟨0, parF (tarF b.Targets r time) (sumF b.Measures b.Targets r time (sinceF (resL b t c time) ahead)).1, redF (sumF b.Measures b.Targets r time (sinceF (resL b t c time) ahead)).1 4, (sumF b.Measures b.Targets r time (sinceF (resL b t c time) ahead)).2⟩
structure DecV where
 run : Int
 par : Rt
 est : Rt
 uv : Value
def DecV.cells (d : DecV) : Array Value := #[vi d.run, vi d.par.n, vi d.par.d, vi d.est.n, vi d.est.d, d.uv]
def Dec.v (d : Dec) (v : Value) : DecV := ⟨d.run, d.par, d.est, v⟩
def rz : Rt := ⟨0, 0⟩
theorem decV_est {w : World} {B : Nat} {d : DecV} {T : TypeId} (h : Blk w B d.cells T) : AggAt w B 3 d.est.cells := fun j v hv => h.cell (by
 match j with
 | 0 => simpa [Rt.cells, DecV.cells] using hv
 | 1 => simpa [Rt.cells, DecV.cells] using hv
 | j + 2 => simp [Rt.cells] at hv)
theorem decV_one (d : DecV) (h : d.uv.oneCell' = true) : d.cells.all (·.oneCell') = true := by simp [DecV.cells, show ∀ i : Int, (vi i).oneCell' = true from fun _ => rfl, h]
def CArg (P : Program) (w : World) (v : Value) (p : Fact → Bool) : Prop := ∃ ad cp qs, v = .slice ad (List.length qs) cp ∧ Els w ad 1 Cnd.cells qs ∧ CndsOk P w qs ∧ qs.length ≤ 100000 ∧ ∀ x, allQ qs x = p x
theorem CArg.up {P : Program} {w w' : World} {v : Value} {p : Fact → Bool} (h : CArg P w v p) (u : Up w w') : CArg P w' v p :=
 let ⟨ad, cp, qs, e, hE, hq, hl, hp⟩ := h
 ⟨ad, cp, qs, e, Els.up hE u, hq.up u, hl, hp⟩
theorem filter_eq {p q : Fact → Bool} (h : ∀ x, p x = q x) (l : List Fact) : l.filter p = l.filter q := by rw [show p = q from funext h]
theorem OwnS.oneV {α : Type} {w : World} {b e k : Nat} {enc : α → Array Value} {v : Value} {xs : List α} (h : OwnS w b e k enc v xs) (hk : ∀ x, (enc x).size = k) : v.oneCell' = true := by
 obtain ⟨ad, cp, rfl, _⟩ := h.sl hk
 rfl
def Apt (B : Nat) (ad : Option Addr) (xs : List Fact) : Prop := xs = [] ∨ ∀ q, ad = some q → q.block ≠ B
theorem els_fr {w w' : World} {ad : Option Addr} {xs : List Fact} {B : Nat} (h : Els w ad 19 Fact.cells xs) (f : Fr (fun i => i = B) w w') (hn : Apt B ad xs) : Els w' ad 19 Fact.cells xs :=
 hn.elim (fun e => by subst e; exact fun i x hx => by simp at hx) (fun hn => h.fr f (fun B o e hb => hn _ e hb))
theorem els_apt {w : World} {ad : Option Addr} {xs : List Fact} {B : Nat} (h : Els w ad 19 Fact.cells xs) (hB : w.heap.size ≤ B) : Apt B ad xs := by
 cases xs with
 | nil => exact .inl rfl
 | cons x r =>
   refine .inr fun q hq => ?_
   obtain ⟨B', o, e, hx⟩ := h 0 x rfl
   cases e.symm.trans hq
   have h1 := hx 0 (vi x.Kind) rfl
   unfold World.cell? at h1
   show B' ≠ B
   cases hb : w.heap[B']? with
   | none => rw [hb] at h1; cases h1
   | some ob => have := lt_of_block hb; omega
theorem own_apt {w : World} {b e n cp : Nat} {ad : Option Addr} {xs : List Fact} {B : Nat} (h : OwnS w b e 19 Fact.cells (.slice ad n cp) xs) (hB : B < b) : Apt B ad xs := by
 cases xs with
 | nil => exact .inl rfl
 | cons x r =>
   refine .inr fun q hq => ?_
   obtain ⟨g, rfl⟩ := h.adr (by simp)
   cases hq
   have := h.base g rfl
   show g ≠ B
   omega
theorem up_fr {w0 w w' : World} {B : Nat} (h : Up w0 w) (f : Fr (fun i => i = B) w w') (hB : w0.heap.size ≤ B) : Up w0 w' := ((h.fr (fun _ => False)).next f (fun i e => .inr oQ)).toUp (fun _ h => h)
end Go.Wx
namespace Go.Proofs.YtbbpkdlehlamlaaGreatDoor
open Go.Proofs.Tryz
open Go.Wx Go.RowKit
theorem decide_any (bc : Array Go.Value) (b : Base) (t c r time : Int) (ada0 : Option Addr) (cpa0 : Nat) (ahead : List Fact) (w : World) (hC : BaseC w bc b) (hE0 : Els w ada0 19 Fact.cells ahead) (hlA : ahead.length ≤ 400) (hlR : b.Resets.length ≤ 100000) (hlM : b.Measures.length ≤ 100000) (hlT : b.Targets.length ≤ 100000) : Ret prog 49 #[.agg (placeC bc t c r), vi time, .slice ada0 ahead.length cpa0] w fun r0 w' => ∃ v, r0 = .agg ((decF b t c r time ahead).v v).cells ∧ OwnS w' w.heap.size 3 1 eInt v (decF b t c r time ahead).uses ∧ Up w w' := by
 obtain ⟨w0, rfl⟩ : ∃ w0, w0 = w := ⟨_, rfl⟩
 have hS := Sep.start no w0
 obtain ⟨v8, h8, adR, cpR, rfl, hER⟩ := hC.at8
 refine cS (n := 98) (m := 9) func49 rfl rfl rfl ?_
 refine CW.S ?_
 refine LW.rr (.boxA (.t rfl)) rfl ?_
 rintro _ w1 ⟨B3, rfl, NB3⟩
 have eB3 := NB3.at_
 have zB3 := NB3.size
 replace hS := hS.addB NB3
 change Wx.Sep _ _ _ [_] at hS
 refine LW.rr (.allocA zeroValue48) rfl ?_
 rintro _ w2 ⟨B6, rfl, NB6⟩
 have eB6 := NB6.at_
 have zB6 := NB6.size
 replace hS := hS.addB NB6
 change Wx.Sep _ _ _ [_, _] at hS
 refine LW.S (CW.region ?_)
 refine LW.pp (.makeFunc (.cons (.t rfl) .nil)) ?_
 refine LW.A rfl (LW.S (CW.seq ?_))
 refine CW.free 10 [.eq (.pointer (some ⟨B3, 0, none⟩)), .eq (.pointer (some ⟨B3, 8, none⟩)), .eq (.slice adR b.Resets.length cpR), .eq (.func (.func 85) #[] #[.pointer (some ⟨B3, 0, none⟩)]), .eq (vi time), .pred fun v W => CondOk prog W v (fun x => decide (x.Time ≤ time)), .pred fun v W => CArg prog W v (hereF t c time), .pred fun v W => Sl W v 19 Fact.cells (resL b t c time), .eq (vi ((resL b t c time).length : Int)), .eq (vi 0)] [23, 24, 25] kQ rfl kQ kQ kQ kQ kQ kQ kQ ⟨PhU.eq _, PhU.eq _, PhU.eq _, PhU.eq _, PhU.eq _, PhU.pred fun _ _ _ h u => h.up u, PhU.pred fun _ _ _ h u => h.up u, PhU.pred fun _ _ _ h u => Sl.up h u, PhU.eq _, PhU.eq _, trivial⟩ ?_ ?_
 ·intro W hU0
  have hU := (Up.drew w2).trans hU0
  have hSW := hS.up hU
  refine aC ⟨rfl, TU.p (.fA 0 underlying99 rfl sizeOf32 rfl) rfl⟩ ?_
  refine aC ⟨rfl, TU.p (.fA 8 underlying32 rfl sizeOf26 rfl) rfl⟩ ?_
  refine aC ⟨rfl, TU.p (.ld isAgg26 rfl (placeC_lst (hSW.blk 0 rfl) h8)) rfl⟩ ?_
  refine aC ⟨rfl, TU.p (.move (.t rfl)) rfl⟩ ?_
  refine aC ⟨rfl, TU.p (.move (.t rfl)) rfl⟩ ?_
  refine aC ⟨rfl, TU.c (eC (.o rfl) (en52)) (until_any time W) (by rintro _ W1 ⟨h, u⟩; exact ⟨u, h⟩)⟩ ?_
  refine aC ⟨rfl, TU.open (d := 21) rfl (by rintro _ ⟨cf, lb, rfl, he, hp⟩; exact TU.r (REv.buildSlice (xs := [(⟨85, #[.pointer (some ⟨B3, 0, none⟩)], fun x => decide (x.Tool = t) && decide (x.Chamber = c)⟩ : Cnd), (⟨cf, lb, fun x => decide (x.Time ≤ time)⟩ : Cnd)]) (enc := Cnd.cells) (mk := Cnd.v) underlying169 sizeOf107 zeroValue107 rfl cQ (fun _ => rfl) (fun _ => rfl) (.cons (.t rfl) (.cons (.t rfl) .nil)) rfl) (by rintro _ W1 ⟨B, c_, rfl, N, y, x_⟩; exact ⟨N.up, _, _, _, rfl, x_, CndsOk.cons (⟨85, #[.pointer (some ⟨B3, 0, none⟩)], rfl, en85, fun W2 u x => here_any bc b t c r x B3 _ W2 hC ((hSW.blk 0 rfl).up (N.up.trans u))⟩ : CondOk prog W1 (⟨85, #[.pointer (some ⟨B3, 0, none⟩)], fun x => decide (x.Tool = t) && decide (x.Chamber = c)⟩ : Cnd).v (⟨85, #[.pointer (some ⟨B3, 0, none⟩)], fun x => decide (x.Tool = t) && decide (x.Chamber = c)⟩ : Cnd).p) (CndsOk.cons (⟨cf, lb, rfl, he, fun W2 u x => hp W2 (N.up.trans u) x⟩ : CondOk prog W1 (Cnd.v ⟨cf, lb, fun x => decide (x.Time ≤ time)⟩) (fun x => decide (x.Time ≤ time))) CndsOk.nil), by simp, fun x => by simp [allQ, hereF]⟩))⟩ ?_
  refine aC ⟨rfl, TU.open (d := 22) rfl (by rintro _ ⟨ad, cp_, qs, rfl, hE, hq, hlq, hpq⟩; exact TU.c (eC (.u rfl rfl) (en50)) (all_any adR cpR b.Resets ad cp_ qs W (Els.up hER (hS.upd.trans hU)) hlR hE hlq hq) (by rintro v W1 ⟨h, u⟩; rw [filter_eq hpq] at h; exact ⟨u, h.sl (fun _ => rfl)⟩))⟩ ?_
  refine aC ⟨rfl, TU.open (d := 23) rfl (by rintro _ ⟨ad, cp_, rfl, h⟩; exact TU.p (.lenS underlying26 (.t rfl)) rfl)⟩ ?_
  refine aC ⟨rfl, TU.p (.move (.const _)) rfl⟩ ?_
  exact allL.nil
 intro w3 g hU0 hg
 have hU := (Up.drew w2).trans hU0
 have zw3 := hU.size
 replace hS := hS.up hU
 obtain ⟨RS, eRS⟩ : ∃ R, R = resL b t c time := ⟨_, rfl⟩
 rw [← eRS] at hg
 obtain ⟨ad23, cp23, e23, hR⟩ : Sl w3 (g 23) 19 Fact.cells RS := hg 7 _ 23 cQ rfl rfl
 have e24 : g 24 = vi (RS.length : Int) := hg 8 _ 24 cQ rfl rfl
 have e25 : g 25 = vi 0 := hg 9 _ 25 cQ rfl rfl
 replace hR : Els w3 ad23 19 Fact.cells RS := hR
 change LW _ _ _ _ _ _ _ _ ((23, .eq (g 23)) :: (24, .eq (g 24)) :: (25, .eq (g 25)) :: _) _
 rw [e23, e24, e25]
 clear e23 e24 e25 hg
 have hA := Els.up hE0 hS.upd
 have hRl : RS.length ≤ 100000 := by rw [eRS]; exact Nat.le_trans (List.length_filter_le _ _) hlR
 refine LW.T (CW.block ?_)
 refine CW.loopB (σ := Nat × List Fact × Option Addr × Nat) (fun s w => (s.1 ≤ RS.length) ∧ (s.2.1 = sinceF (RS.take s.1) ahead) ∧ (s.2.1.length ≤ ahead.length) ∧ (Apt B6 s.2.2.1 s.2.1) ∧ (Wx.Sep no w0 w [aBlk B3 (placeC bc t c r) 99, aBlk B6 (DecV.cells ⟨0, rz, rz, .slice none 0 0⟩) 48]) ∧ (Els w ad23 19 Fact.cells RS) ∧ (Els w s.2.2.1 19 Fact.cells s.2.1)) (fun s => [(25, .eq (vi (s.1 : Int))), (2, .eq (.slice s.2.2.1 s.2.1.length s.2.2.2))]) ([(1, .eq _), (3, .eq _), (6, .eq _), (23, .eq _), (24, .eq _)]) (fun s => RS.length - s.1) (0, ahead, ada0, cpa0) ?_ ⟨rfl, rfl, rfl, rfl, rfl, rfl, rfl, trivial⟩ ?_
 ·exact ⟨Nat.zero_le _, rfl, Nat.le_refl _, els_apt hE0 oQ, hS, hR, hA⟩
 rintro ⟨k, a, ada, cpa⟩ w4 ⟨hk, ha, hla, hna, hS, hR, hA⟩
 dsimp only at hk ha hla hna hS hA
 change CW _ _ _ _ _ _ _ ([(25, .eq (vi (k : Int))), (2, .eq (.slice ada a.length cpa))] ++ _) _
 refine CW.S ?_
 refine LW.pp (.lss (.t rfl) (.t rfl)) ?_
 refine LW.S ?_
 refine CW.cond (.t rfl) (fun h26 => ?_) (fun h26 => ?_)
 ·replace h26 := dQ h26
  refine CW.skip (KW.then (CW.seq (CW.block (CW.S ?_))))
  obtain ⟨y, hy⟩ := getElem?_of_lt (xs := RS) (i := k) oQ
  obtain ⟨By, oy, ay, hcy⟩ := hR _ y hy
  refine LW.pp (.indexAddr' underlying26 sizeOf24 (.t rfl) (.t rfl) oQ ay) ?_
  refine LW.pp (.la isAgg24 sizeOf24 rfl (hcy)) ?_
  refine LW.rr (.allocA zeroValue24) rfl ?_
  rintro _ w5 ⟨B9, rfl, MB9⟩
  refine LW.E (.storeA sizeOf24 rfl (.t rfl) (.t rfl) (Fact.one _) MB9.blk rfl) ?_
  intro w6 LB9
  have NB9 := MB9.set LB9
  clear LB9 MB9
  have eB9 := NB9.at_
  have zB9 := NB9.size
  replace hR := hR.up NB9.up
  replace hA := hA.up NB9.up
  replace hcy := hcy.up NB9.up
  replace hS := hS.addB NB9
  change Wx.Sep _ _ _ [_, _, _] at hS
  refine LW.T ?_
  have hlt6 := (hS.blk 1 rfl).lt
  refine CW.region (LW.M rfl ?_)
  refine LW.pp (.makeFunc (.cons (.t rfl) .nil)) ?_
  refine LW.rr (.buildSlice (xs := [(⟨86, #[.pointer (some ⟨B9, 0, none⟩)], fun x => decide (y.Time ≤ x.Time)⟩ : Cnd)]) (enc := Cnd.cells) (mk := Cnd.v) underlying169 sizeOf107 zeroValue107 rfl cQ (fun _ => rfl) (fun _ => rfl) (.cons (.t rfl) .nil) rfl) rfl ?_
  rintro _ w7 ⟨B31, cB31, rfl, NB31, yB31, xB31⟩
  have eB31 := NB31.at_
  have zB31 := NB31.size
  replace hS := hS.up NB31.up
  replace hR := hR.up NB31.up
  replace hA := hA.up NB31.up
  have hE31 := xB31
  refine LW.K (eC (.u rfl rfl) (en50)) rfl (all_any ada cpa a _ _ _ _ hA oQ hE31 (by simp) (CndsOk.cons ⟨86, #[.pointer (some ⟨B9, 0, none⟩)], rfl, en86, fun W u x => since_any x y B9 W ((hS.blk 2 rfl).up u)⟩ CndsOk.nil)) ?_
  rintro v32 w8 ⟨hO32, uw8⟩
  have zw8 := uw8.size
  replace hS := hS.up uw8
  replace hR := hR.up uw8
  replace hA := hA.up uw8
  simp only [allQ, List.all_cons, List.all_nil, Bool.and_true] at hO32
  obtain ⟨ad32, cp32, rfl, hE32_⟩ := hO32.sl (fun _ => rfl)
  have hA2 : Els w8 ad32 19 Fact.cells (a.filter fun x => decide (y.Time ≤ x.Time)) := hE32_
  have hna2 := own_apt (B := B6) hO32 oQ
  clear hO32 hE32_
  refine LW.A rfl (LW.nil (KW.inBlock (KW.then (CW.region ?_))))
  refine LW.pp (.inc (.t rfl) oQ) ?_
  refine LW.M rfl (LW.nil (KW.round ?_))
  exact ⟨(k + 1, (a.filter fun x => decide (y.Time ≤ x.Time)), ad32, cp32), ⟨by show k + 1 ≤ _; omega, by rw [sinceF_take hy, ← ha], Nat.le_trans (List.length_filter_le _ _) hla, hna2, hS.take 2, hR, hA2⟩, ⟨rfl, rfl, rfl, rfl, rfl, rfl, rfl, trivial⟩, by show RS.length - (k + 1) < RS.length - k; omega⟩
 replace h26 := dQ h26
 refine CW.exit (KW.then_exit (KW.then_exit (KW.block_hit (KW.then (CW.S ?_)))))
 refine LW.K (eC (.cons (.const _) .nil) (en87)) rfl (whole_any (0) _ cQ) ?_
 rintro _ w9 ⟨rfl, uw9⟩
 have zw9 := uw9.size
 replace hS := hS.up uw9
 replace hA := hA.up uw9
 refine LW.pp (.fA 3 underlying48 rfl sizeOf45 rfl) ?_
 refine LW.E (.storePart sizeOf45 rfl (.t rfl) (.t rfl) (Rt.one _) (hS.blk 1 rfl) (zQ rfl)) ?_
 intro w10 Nw10
 have zw10 := Nw10.size
 replace hS := hS.putB 1 rfl (show Set_ _ w10 _ (DecV.cells ⟨0, rz, redF (0) 4, .slice none 0 0⟩) _ from Nw10)
 change Wx.Sep _ _ _ [_, _] at hS
 replace hA := els_fr hA (Nw10.sto).fr hna
 refine LW.S (CW.seq ?_)
 have hk0 : k = RS.length := by omega
 rw [hk0, List.take_length] at ha
 have hUL := hS.upd
 have hB3L := hS.blk 0 rfl
 have hne6 : B3 ≠ B6 := by omega
 have hUp : ∀ W, Fr (fun i => i = B6) w10 W → Up w0 W := fun W f => up_fr hUL f oQ
 have hAf : ∀ W, Fr (fun i => i = B6) w10 W → Els W ada 19 Fact.cells a := fun W f => els_fr hA f hna
 have hB3f : ∀ W, Fr (fun i => i = B6) w10 W → Blk W B3 (placeC bc t c r) 99 := fun W f => hB3L.fr f hne6
 obtain ⟨wL, ewL⟩ : ∃ W, W = w10 := ⟨_, rfl⟩
 rw [← ewL] at hUp hAf hB3f
 replace hS : Wx.Sep (fun i => i = B6) wL w10 [aBlk B6 (DecV.cells ⟨0, rz, redF (0) 4, .slice none 0 0⟩) 48] := by rw [ewL]; exact Sep.cons (hS.blk 1 rfl) (fun _ h => h) (Sep.start _ _) (by simp)
 replace hS := hS.add (Up.refl _) (A' := aOwn 3 1 eInt (.slice none 0 0) ([] : List Int)) (OwnS.nil _ _ _ _ _) (by intro i h; cases h)
 change Wx.Sep _ _ _ [_, _] at hS
 refine CW.region (LW.M rfl ?_)
 refine LW.pp (.lenS underlying26 (.t rfl)) ?_
 refine LW.pp (.move (.const _)) ?_
 refine LW.T (CW.block ?_)
 refine CW.loopB (σ := Nat × Go.Value × Int × List Int) (fun s w => (s.1 ≤ a.length) ∧ (s.2.2 = sumF b.Measures b.Targets r time (a.take s.1)) ∧ (Wx.Sep (fun i => i = B6) wL w [aBlk B6 (DecV.cells ⟨0, rz, redF (s.2.2.1) 4, s.2.1⟩) 48, aOwn 3 1 eInt (s.2.1) s.2.2.2])) (fun s => [(38, .eq (vi (s.1 : Int)))]) ([(1, .eq _), (3, .eq _), (6, .eq _), (36, .eq _), (37, .eq _)]) (fun s => a.length - s.1) (0, .slice none 0 0, 0, []) ?_ ⟨rfl, rfl, rfl, rfl, rfl, rfl, trivial⟩ ?_
 ·exact ⟨Nat.zero_le _, rfl, hS⟩
 rintro ⟨k, v, E, U⟩ w11 ⟨hk, hEU, hS⟩
 dsimp only at hk hEU hS
 change CW _ _ _ _ _ _ _ ([(38, .eq (vi (k : Int)))] ++ _) _
 refine CW.S ?_
 refine LW.pp (.lss (.t rfl) (.t rfl)) ?_
 refine LW.S ?_
 refine CW.cond (.t rfl) (fun h39 => ?_) (fun h39 => ?_)
 ·replace h39 := dQ h39
  refine CW.skip (KW.then (CW.seq (CW.block (CW.seq ?_))))
  have hA := hAf _ hS.fr
  refine CW.region ?_
  obtain ⟨x, hx⟩ := getElem?_of_lt (xs := a) (i := k) oQ
  obtain ⟨Bx, ox, ax, hcx⟩ := hA _ x hx
  refine LW.pp (.indexAddr' underlying26 sizeOf24 (.t rfl) (.t rfl) oQ ax) ?_
  refine LW.pp (.la isAgg24 sizeOf24 rfl (hcx)) ?_
  refine LW.rr (.allocA zeroValue24) rfl ?_
  rintro _ w12 ⟨B11, rfl, MB11⟩
  refine LW.E (.storeA sizeOf24 rfl (.t rfl) (.t rfl) (Fact.one _) MB11.blk rfl) ?_
  intro w13 LB11
  have NB11 := MB11.set LB11
  clear LB11 MB11
  have eB11 := NB11.at_
  have zB11 := NB11.size
  replace hcx := hcx.up NB11.up
  replace hS := hS.addB NB11
  change Wx.Sep _ _ _ [_, _, _] at hS
  refine LW.S (CW.region ?_)
  refine LW.pp (.loadA isAgg99 sizeOf99 ((placeC_size hC t c r)) (.t rfl) ((hB3f _ hS.fr).agg)) ?_
  refine LW.pp (.la isAgg24 sizeOf24 rfl ((hS.blk 2 rfl).agg)) ?_
  refine LW.M rfl ?_
  refine LW.K (eC (.cons (.t rfl) (.cons (.t rfl) (.cons (.t rfl) .nil))) (en88)) rfl (deviation_any bc b t c r x time _ (hC.up (hUp _ hS.fr)) hlM hlT) ?_
  rintro _ w14 ⟨rfl, uw14⟩
  have zw14 := uw14.size
  replace hS := hS.up uw14
  refine LW.M rfl (LW.pp (.extract (.t rfl) rfl) (LW.pp (.extract (.t rfl) rfl) (LW.A rfl (LW.A rfl (LW.S (CW.region (LW.M rfl (LW.M rfl ?_))))))))
  refine LW.g rfl rfl rfl rfl rfl rfl rfl (fun hc => PEv.move (.t rfl)) ?_
  refine LW.g rfl rfl rfl rfl rfl rfl rfl (fun hc => PEv.lss vQ (.const _)) ?_
  refine LW.g rfl rfl rfl rfl rfl rfl rfl (fun hc => PEv.move vQ) ?_
  refine LW.gg rfl rfl rfl rfl rfl rfl rfl (fun hc => PEv.move (.t rfl)) ?_
  refine LW.gg rfl rfl rfl rfl rfl rfl rfl (fun hc => PEv.gtr vQ (.const _)) ?_
  refine LW.g rfl rfl rfl rfl rfl rfl rfl (fun hc => PEv.pick_or vQ (fun hp => (by first | exact .const _ | exact .tmp rfl | exact .cond rfl (by first | assumption | (rw [hp]; rfl) | (rw [hc, hp]; rfl) | simp_all)))) ?_
  refine LW.pp (.pick_and (.t rfl) (fun hp => (by first | exact .const _ | exact .tmp rfl | exact .cond rfl (by first | assumption | (rw [hp]; rfl) | (rw [hc, hp]; rfl) | simp_all)))) ?_
  refine LW.T ?_
  refine CW.cond (.t rfl) (fun h57 => ?_) (fun h57 => ?_)
  ·replace h57 := dQ h57
   have hcl : clears (devF b.Measures b.Targets r x time) = true := by simpa [clears] using h57
   have hdi := devF_in b.Measures b.Targets r x time
   have hbd := sumF_bd b.Measures b.Targets r time (a.take k)
   rw [← hEU] at hbd
   dsimp only at hbd
   rw [List.length_take] at hbd
   refine CW.seq ?_
   refine CW.free 12 [.eq (.pointer (some ⟨B6, 3, none⟩)), .eq (.agg (redF E 4).cells), .eq (vi (devF b.Measures b.Targets r x time).1), .eq (.tuple #[.agg (redF (devF b.Measures b.Targets r x time).1 4).cells, vi 0]), .eq (.agg (redF (devF b.Measures b.Targets r x time).1 4).cells), .eq (vi 0), .eq (.agg (redF (devF b.Measures b.Targets r x time).1 4).cells), .eq (.tuple #[.agg (redF (E + (devF b.Measures b.Targets r x time).1) 4).cells, vi 0]), .eq (.agg (redF (E + (devF b.Measures b.Targets r x time).1) 4).cells), .eq (vi 0), .eq (.agg (redF (E + (devF b.Measures b.Targets r x time).1) 4).cells), .eq (.pointer (some ⟨B6, 3, none⟩))] [69, 68] kQ rfl kQ kQ kQ kQ kQ kQ kQ ⟨PhU.eq _, PhU.eq _, PhU.eq _, PhU.eq _, PhU.eq _, PhU.eq _, PhU.eq _, PhU.eq _, PhU.eq _, PhU.eq _, PhU.eq _, PhU.eq _, trivial⟩ ?_ ?_
   ·intro W hU0
    have hU := (Up.drew w14).trans hU0
    have hSW := hS.up hU
    refine aC ⟨rfl, TU.p (.fA 3 underlying48 rfl sizeOf45 rfl) rfl⟩ ?_
    refine aC ⟨rfl, TU.p (.la isAgg45 sizeOf45 rfl (decV_est (hSW.blk 0 rfl))) rfl⟩ ?_
    refine aC ⟨rfl, TU.p (.move (.t rfl)) rfl⟩ ?_
    refine aC ⟨rfl, TU.c (eC (.cons (.t rfl) (.cons (.const _) .nil)) (en57)) (Make_any (devF b.Measures b.Targets r x time).1 4 W ⟨by omega, by omega⟩ cQ ⟨by decide, by decide⟩) (by rintro _ W1 ⟨rfl, u⟩; rw [mkF_fits (fits_small oQ cQ)]; exact ⟨u, rfl⟩)⟩ ?_
    refine aC ⟨rfl, TU.p (.extract (.t rfl) rfl) rfl⟩ ?_
    refine aC ⟨rfl, TU.p (.extract (.t rfl) rfl) rfl⟩ ?_
    refine aC ⟨rfl, TU.c (eC (.u rfl rfl) (en89)) (must_any (redF (devF b.Measures b.Targets r x time).1 4) W) sQ⟩ ?_
    refine aC ⟨rfl, TU.c (eC (.u rfl rfl) (en90)) (Add_any (redF E 4) (redF (devF b.Measures b.Targets r x time).1 4) W (redQ_ok oQ) (redQ_ok oQ)) (by rintro _ W1 ⟨rfl, u⟩; rw [addQ_mk (by omega)]; exact ⟨u, rfl⟩)⟩ ?_
    refine aC ⟨rfl, TU.p (.extract (.t rfl) rfl) rfl⟩ ?_
    refine aC ⟨rfl, TU.p (.extract (.t rfl) rfl) rfl⟩ ?_
    refine aC ⟨rfl, TU.c (eC (.u rfl rfl) (en89)) (must_any (redF (E + (devF b.Measures b.Targets r x time).1) 4) W) sQ⟩ ?_
    refine aC ⟨rfl, TU.p (.fA 3 underlying48 rfl sizeOf45 rfl) rfl⟩ ?_
    exact allL.nil
   intro w15 g hU0 hg
   have hU := (Up.drew w14).trans hU0
   have zw15 := hU.size
   replace hS := hS.up hU
   have e69 : g 69 = .pointer (some ⟨B6, 3, none⟩) := hg 11 _ 69 cQ rfl rfl
   have e68 : g 68 = .agg (redF (E + (devF b.Measures b.Targets r x time).1) 4).cells := hg 10 _ 68 cQ rfl rfl
   change LW _ _ _ _ _ _ _ _ ((69, .eq (g 69)) :: (68, .eq (g 68)) :: _) _
   rw [e69, e68]
   clear e69 e68 hg
   refine LW.E (.storePart sizeOf45 rfl (.t rfl) (.t rfl) (Rt.one _) (hS.blk 0 rfl) (zQ rfl)) ?_
   intro w16 Nw16
   have zw16 := Nw16.size
   replace hS := hS.putB 0 rfl (show Set_ _ w16 _ (DecV.cells ⟨0, rz, redF (E + (devF b.Measures b.Targets r x time).1) 4, v⟩) _ from Nw16)
   change Wx.Sep _ _ _ [_, _, _] at hS
   refine LW.T (CW.region ?_)
   refine LW.pp (.fA 5 underlying48 rfl sizeOf46 rfl) ?_
   refine LW.pp (.ld isAgg46 rfl ((hS.blk 0 rfl).celln rfl)) ?_
   refine LW.pp (.fA 1 underlying24 rfl sizeOf3 rfl) ?_
   refine LW.pp (.ld isAgg3 rfl ((hS.blk 2 rfl).celln rfl)) ?_
   refine LW.rr (.buildSlice (xs := [x.ID]) (enc := eInt) (mk := vi) underlying46 sizeOf3 zeroValue3 rfl cQ (fun _ => rfl) (fun _ => rfl) (.cons (.t rfl) .nil) rfl) rfl ?_
   rintro _ w17 ⟨B74, cB74, rfl, NB74, yB74, xB74⟩
   have eB74 := NB74.at_
   have zB74 := NB74.size
   replace hS := hS.up NB74.up
   have hE74 := xB74
   refine LW.rr (.appendF (enc := eInt) (bytes := 8) (i := Tryz.t3) underlying46 kQ rfl rfl rfl rfl cQ (fun _ => rfl) eInt_one (.t rfl) (.t rfl) (hS.own 1 rfl) (Sl.of_els hE74) (by simp [maxLen]; omega) (by simp; omega)) rfl ?_
   intro v75 w18 Gw18
   have zw18 := Gw18.fr.size
   replace hS := hS.stp 1 rfl Gw18
   change Wx.Sep _ _ _ [_, _, _] at hS
   refine LW.pp (.fA 5 underlying48 rfl sizeOf46 rfl) ?_
   refine LW.E (.store sizeOf46 (.t rfl) (.t rfl) ((hS.own 1 rfl).oneV (fun _ => rfl)) (hS.blk 0 rfl) (zQ rfl)) ?_
   intro w19 Nw19
   have zw19 := Nw19.size
   replace hS := hS.putB 0 rfl (show Set_ _ w19 _ (DecV.cells ⟨0, rz, redF (E + (devF b.Measures b.Targets r x time).1) 4, v75⟩) _ from Nw19)
   change Wx.Sep _ _ _ [_, _, _] at hS
   refine LW.nil (KW.inBlock (KW.then (CW.region ?_)))
   refine LW.pp (.inc (.t rfl) oQ) ?_
   refine LW.M rfl (LW.nil (KW.round ?_))
   first | exact ⟨(k + 1, v75, E + (devF b.Measures b.Targets r x time).1, U ++ [x.ID]), ⟨by show k + 1 ≤ _; omega, by rw [sumF_take hx, ← hEU, sum_yes hcl], hS.take 2⟩, ⟨rfl, rfl, rfl, rfl, rfl, rfl, trivial⟩, by show a.length - (k + 1) < a.length - k; omega⟩ | exact ⟨(k + 1, v, E, U), ⟨by show k + 1 ≤ _; omega, by rw [sumF_take hx, ← hEU, sum_no hcl], hS.take 2⟩, ⟨rfl, rfl, rfl, rfl, rfl, rfl, trivial⟩, by show a.length - (k + 1) < a.length - k; omega⟩
  replace h57 := dQ h57
  have hcl : clears (devF b.Measures b.Targets r x time) = false := by simpa [clears] using h57
  refine CW.skip (KW.inBlock (KW.then (CW.region ?_)))
  refine LW.pp (.inc (.t rfl) oQ) ?_
  refine LW.M rfl (LW.nil (KW.round ?_))
  first | exact ⟨(k + 1, v75, E + (devF b.Measures b.Targets r x time).1, U ++ [x.ID]), ⟨by show k + 1 ≤ _; omega, by rw [sumF_take hx, ← hEU, sum_yes hcl], hS.take 2⟩, ⟨rfl, rfl, rfl, rfl, rfl, rfl, trivial⟩, by show a.length - (k + 1) < a.length - k; omega⟩ | exact ⟨(k + 1, v, E, U), ⟨by show k + 1 ≤ _; omega, by rw [sumF_take hx, ← hEU, sum_no hcl], hS.take 2⟩, ⟨rfl, rfl, rfl, rfl, rfl, rfl, trivial⟩, by show a.length - (k + 1) < a.length - k; omega⟩
 replace h39 := dQ h39
 refine CW.exit (KW.then_exit (KW.then_exit (KW.block_hit (KW.then (CW.seq ?_)))))
 have hti := tarF_in b.Targets r time
 have hkl : k = a.length := by omega
 rw [hkl, List.take_length] at hEU
 have hbd := sumF_bd b.Measures b.Targets r time a
 rw [← hEU] at hbd
 dsimp only at hbd
 refine CW.free 11 [.eq (.agg (placeC bc t c r)), .eq (vi time), .eq (vi (tarF b.Targets r time)), .eq (.agg (redF (tarF b.Targets r time) 1).cells), .eq (.pointer (some ⟨B6, 3, none⟩)), .eq (.agg (redF E 4).cells), .eq (.tuple #[.agg (redF (4 * tarF b.Targets r time - E) 4).cells, vi 0]), .eq (.agg (redF (4 * tarF b.Targets r time - E) 4).cells), .eq (vi 0), .eq (.agg (redF (4 * tarF b.Targets r time - E) 4).cells), .pred fun v W => ∃ B, v = .pointer (some ⟨B, 0, none⟩) ∧ w11.drew.heap.size ≤ B ∧ Blk W B rz.cells 45] [14, 87] kQ rfl kQ kQ kQ kQ kQ kQ kQ ⟨PhU.eq _, PhU.eq _, PhU.eq _, PhU.eq _, PhU.eq _, PhU.eq _, PhU.eq _, PhU.eq _, PhU.eq _, PhU.eq _, PhU.pred fun _ _ _ h u => let ⟨B, e, hz, hb⟩ := h; ⟨B, e, hz, hb.up u⟩, trivial⟩ ?_ ?_
 ·intro W hU0
  have hU := (Up.drew w11).trans hU0
  have hSW := hS.up hU
  have zU0 := hU0.size
  refine aC ⟨rfl, TU.p (.loadA isAgg99 sizeOf99 (placeC_size hC t c r) (.t rfl) ((hB3f W hSW.fr).agg)) rfl⟩ ?_
  refine aC ⟨rfl, TU.p (.move (.t rfl)) rfl⟩ ?_
  refine aC ⟨rfl, TU.c (eC (.u rfl rfl) (en92)) (ptarget_any bc b t c r time W (hC.up (hUp W hSW.fr)) hlT) sQ⟩ ?_
  refine aC ⟨rfl, TU.c (eC (.o rfl) (en87)) (whole_any (tarF b.Targets r time) W oQ) sQ⟩ ?_
  refine aC ⟨rfl, TU.p (.fA 3 underlying48 rfl sizeOf45 rfl) rfl⟩ ?_
  refine aC ⟨rfl, TU.p (.la isAgg45 sizeOf45 rfl (decV_est (hSW.blk 0 rfl))) rfl⟩ ?_
  refine aC ⟨rfl, TU.c (eC (.u rfl rfl) (en91)) (Sub_any (redF (tarF b.Targets r time) 1) (redF E 4) W (red1_ok oQ) (redQ_ok oQ)) (by rintro _ W1 ⟨rfl, u⟩; refine ⟨u, ?_⟩; have e := subQ_mk (T := tarF b.Targets r time) (e := E) (by omega); unfold negR at e; rw [e]; rfl)⟩ ?_
  refine aC ⟨rfl, TU.p (.extract (.t rfl) rfl) rfl⟩ ?_
  refine aC ⟨rfl, TU.p (.extract (.t rfl) rfl) rfl⟩ ?_
  refine aC ⟨rfl, TU.c (eC (.u rfl rfl) (en89)) (must_any (redF (4 * tarF b.Targets r time - E) 4) W) sQ⟩ ?_
  refine aC ⟨rfl, TU.r (REv.allocA zeroValue45) (fun v W' h => let ⟨B, e, N⟩ := h; ⟨N.up, B, e, by rw [N.at_]; exact zU0, N.blk⟩)⟩ ?_
  exact allL.nil
 intro w20 g hU0 hg
 have hU := (Up.drew w11).trans hU0
 have zw20 := hU.size
 obtain ⟨B14, e14, z14, hB14⟩ : ∃ B, g 14 = .pointer (some ⟨B, 0, none⟩) ∧ w11.drew.heap.size ≤ B ∧ Blk w20 B rz.cells 45 := hg 10 _ 14 cQ rfl rfl
 have e87 : g 87 = .agg (redF (4 * tarF b.Targets r time - E) 4).cells := hg 9 _ 87 cQ rfl rfl
 change LW _ _ _ _ _ _ _ _ ((14, .eq (g 14)) :: (87, .eq (g 87)) :: _) _
 rw [e14, e87]
 clear e14 e87 hg
 replace hS := (hS.up (Up.drew _)).add hU0 (A' := aBlk B14 rz.cells 45) hB14 (fun i (e : i = B14) => by omega)
 change Wx.Sep _ _ _ [_, _, _] at hS
 refine LW.E (.storeA sizeOf45 rfl (.t rfl) (.t rfl) (Rt.one _) (hS.blk 2 rfl) rfl) ?_
 intro w21 Nw21
 have zw21 := Nw21.size
 replace hS := hS.putB 2 rfl (show Set_ _ w21 _ ((redF (4 * tarF b.Targets r time - E) 4).cells) _ from Nw21)
 change Wx.Sep _ _ _ [_, _, _] at hS
 refine LW.S (CW.region ?_)
 refine LW.pp (.la isAgg45 sizeOf45 rfl ((hS.blk 2 rfl).agg)) ?_
 refine LW.K (eC (.cons (.t rfl) (.cons (.const _) .nil)) (en94)) rfl (Round_any (redF (4 * tarF b.Targets r time - E) 4) 1000 _ (redQ_ok oQ) cQ) ?_
 rintro _ w22 ⟨rfl, uw22⟩
 have zw22 := uw22.size
 replace hS := hS.up uw22
 rw [rndQ_mk (by omega)]
 refine LW.pp (.extract (.t rfl) rfl) (LW.pp (.extract (.t rfl) rfl) ?_)
 refine LW.K (eC (.u rfl rfl) (en89)) rfl (must_any (redF (4 * tarF b.Targets r time - E) 4) _) ?_
 rintro _ w23 ⟨rfl, uw23⟩
 have zw23 := uw23.size
 replace hS := hS.up uw23
 refine LW.K (eC (.cons (.const _) .nil) (en87)) rfl (whole_any (-10000) _ cQ) ?_
 rintro _ w24 ⟨rfl, uw24⟩
 have zw24 := uw24.size
 replace hS := hS.up uw24
 refine LW.K (eC (.cons (.const _) .nil) (en87)) rfl (whole_any (10000) _ cQ) ?_
 rintro _ w25 ⟨rfl, uw25⟩
 have zw25 := uw25.size
 replace hS := hS.up uw25
 refine LW.K (eC (.cons (.t rfl) (.cons (.t rfl) (.cons (.t rfl) .nil))) (en93)) rfl (Clamp_any (redF (4 * tarF b.Targets r time - E) 4) _ _ _ (redQ_ok oQ) (red1_ok cQ) (red1_ok cQ)) ?_
 rintro _ w26 ⟨rfl, uw26⟩
 have zw26 := uw26.size
 replace hS := hS.up uw26
 refine LW.pp (.fA 1 underlying48 rfl sizeOf45 rfl) ?_
 refine LW.E (.storePart sizeOf45 rfl (.t rfl) (.t rfl) (Rt.one _) (hS.blk 0 rfl) (zQ rfl)) ?_
 intro w27 Nw27
 have zw27 := Nw27.size
 replace hS := hS.putB 0 rfl (show Set_ _ w27 _ (DecV.cells ⟨0, parF (tarF b.Targets r time) E, redF E 4, v⟩) _ from Nw27)
 change Wx.Sep _ _ _ [_, _, _] at hS
 refine LW.S (CW.region ?_)
 refine LW.pp (.la isAgg48 sizeOf48 rfl ((hS.blk 0 rfl).agg)) ?_
 refine LW.E (.storeA sizeOf48 rfl (.t rfl) (.t rfl) (decV_one _ ((hS.own 1 rfl).oneV (fun _ => rfl))) (hS.blk 0 rfl) rfl) ?_
 intro w28 Nw28
 have zw28 := Nw28.size
 replace hS := hS.putB 0 rfl (show Set_ _ w28 _ (DecV.cells ⟨0, parF (tarF b.Targets r time) E, redF E 4, v⟩) _ from Nw28)
 change Wx.Sep _ _ _ [_, _, _] at hS
 refine LW.T (CW.ret ?_)
 refine KW.retA rfl rfl isAgg48 sizeOf48 rfl ((hS.blk 0 rfl).agg) ⟨_, rfl, ?_⟩
 subst eRS
 rw [ha] at hEU
 have e1 : decF b t c r time ahead = ⟨0, parF (tarF b.Targets r time) E, redF E 4, U⟩ := by unfold decF; rw [← hEU]
 rw [e1]
 have huz := (hUp _ hS.fr)
 exact ⟨v, rfl, (hS.own 1 rfl).rebase (fun i h => (hS.foot 1 rfl i h).elim (fun e => by omega) (fun h => Nat.le_trans (by rw [ewL]; exact hUL.size) h)), huz⟩
end Go.Proofs.YtbbpkdlehlamlaaGreatDoor
end
