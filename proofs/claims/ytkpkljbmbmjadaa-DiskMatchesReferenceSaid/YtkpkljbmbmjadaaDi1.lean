import Derived.Test.YtkpkljbmbmjadaaNums
import Derived.Test.YtkpkljbmbmjadaaBy
namespace Go.Wx

structure Wr where
  off : Int
  s : ByteArray
def Wr.cells (x : Wr) : Array Go.Value := #[.int .i64 x.off, .string x.s]
theorem Wr.one (x : Wr) : x.cells.all (·.oneCell') = true := by simp [Wr.cells, Value.oneCell']
structure DS where
  off : Bool
  left : Int
  dur : List UInt8
  vis : List UInt8
  pend : List Wr
structure Dk where
  bd : Nat
  du : Nat
  vi : Nat
  pv : Go.Value
def dcells (D : Dk) (s : DS) : Array Go.Value := #[.bool s.off, .int .i64 s.left, .slice (some ⟨D.du, 0, none⟩) s.dur.length s.dur.length, .slice (some ⟨D.vi, 0, none⟩) s.dur.length s.dur.length, D.pv]
structure DOk (s : DS) : Prop where
  len : s.vis.length = s.dur.length
  max : s.dur.length ≤ 4194304
  left0 : 0 ≤ s.left
  left1 : s.left ≤ 9223372036854775807
  pmax : s.pend.length ≤ 1000000
  wok : ∀ x ∈ s.pend, 0 ≤ x.off ∧ x.off.toNat + x.s.size ≤ s.dur.length
def checkS (s : DS) : Int := if s.off then 241 else 0
def insideB (n : Nat) (off m : Int) : Bool := decide (0 ≤ off) && decide (0 ≤ m) && decide (off ≤ n) && decide (m ≤ n - off)
def usedS (s : DS) : DS := if s.left = 0 then s else { s with left := s.left - 1, off := decide (s.left - 1 = 0) }
def putS (s : DS) (off : Int) (x : ByteArray) : DS := { s with pend := s.pend ++ [⟨off, x⟩], vis := overlay s.vis off.toNat x.data.toList }
def writeE (s : DS) (off : Int) (x : ByteArray) : Int := if s.off then 241 else if insideB s.dur.length off x.size then 0 else 240
def writeS (s : DS) (off : Int) (x : ByteArray) : DS := if s.off then s else if insideB s.dur.length off x.size then usedS (putS s off x) else s
def syncS (s : DS) : DS := if s.off then s else { s with dur := s.vis, pend := [] }
def readE (s : DS) (off m : Int) : Int := if s.off then 241 else if insideB s.dur.length off m then 0 else 240
def readB (s : DS) (off m : Int) : ByteArray := if s.off then ByteArray.empty else if insideB s.dur.length off m then strOf s.vis off.toNat m.toNat else ByteArray.empty
def cutE (s : DS) (m : Int) : Int := if s.off then 241 else if m < 0 then 2 else 0
def cutS (s : DS) (m : Int) : DS := if s.off then s else if m < 0 then s else { s with off := decide (m = 0), left := m }

end Go.Wx
namespace Go.Proofs.Ytkpkljbmbmjadaa
open Go.Wx Go.RowKit

def aDisk (D : Dk) (s : DS) : Asr where
  foot i := i = D.bd ∨ i = D.du ∨ i = D.vi ∨ D.pv.ownBlock = some i
  holds w := Blk w D.bd (dcells D s) 65 ∧ Blk w D.du (byc s.dur) 5 ∧ Blk w D.vi (byc s.vis) 5 ∧ OwnS w 0 69 2 Wr.cells D.pv s.pend ∧ (D.bd ≠ D.du ∧ D.bd ≠ D.vi ∧ D.du ≠ D.vi ∧ D.pv.ownBlock ≠ some D.bd ∧ D.pv.ownBlock ≠ some D.du ∧ D.pv.ownBlock ≠ some D.vi) ∧ DOk s
  keep := fun w w' ⟨h1, h2, h3, h4, h5, h6⟩ k _ => ⟨(k _ (.inl rfl) h1.lt).trans h1, (k _ (.inr (.inl rfl)) h2.lt).trans h2, (k _ (.inr (.inr (.inl rfl))) h3.lt).trans h3, h4.keeps (fun i hi hl => k i (.inr (.inr (.inr hi))) hl), h5, h6⟩
  lt := fun w ⟨h1, h2, h3, h4, _⟩ i hi => by
    rcases hi with rfl | rfl | rfl | hi
    · exact h1.lt
    · exact h2.lt
    · exact h3.lt
    · exact h4.lt i hi
abbrev parts (D : Dk) (s : DS) : List Asr := [aBlk D.bd (dcells D s) 65, aBlk D.du (byc s.dur) 5, aBlk D.vi (byc s.vis) 5, aOwn 69 2 Wr.cells D.pv s.pend]
theorem diskOpen {w : World} {D : Dk} {s : DS} (h : (aDisk D s).holds w) : Sep (aDisk D s).foot w w (parts D s) ∧ DOk s := by
  obtain ⟨h1, h2, h3, h4, ⟨n1, n2, n3, n4, n5, n6⟩, h6⟩ := h
  refine ⟨Sep.cons (A := aBlk _ _ _) h1 (fun i hi => .inl hi) (Sep.cons (A := aBlk _ _ _) h2 (fun i hi => .inr (.inl hi)) (Sep.cons (A := aBlk _ _ _) h3 (fun i hi => .inr (.inr (.inl hi))) (Sep.cons (A := aOwn _ _ _ _ _) h4 (fun i hi => .inr (.inr (.inr hi))) (Sep.start _ _) (by simp)) ?_) ?_) ?_, h6⟩
  · intro B hB i (hi : i = D.vi) hf
    simp at hB; subst hB; subst hi
    exact n6 hf
  · intro B hB i (hi : i = D.du) hf
    simp at hB; subst hi
    rcases hB with rfl | rfl
    · exact n3 hf
    · exact n5 hf
  · intro B hB i (hi : i = D.bd) hf
    simp at hB; subst hi
    rcases hB with rfl | rfl | rfl
    · exact n1 hf
    · exact n2 hf
    · exact n4 hf
theorem diskClose {w0 w : World} {D : Dk} {s0 s : DS} {pv : Go.Value} {rest : List Asr} (h : Sep (aDisk D s0).foot w0 w (parts { D with pv := pv } s ++ rest)) (hk : DOk s) : Stp (aDisk D s0) (aDisk { D with pv := pv } s) w0 w := by
  refine ⟨h.fr, ⟨h.blk 0 rfl, h.blk 1 rfl, h.blk 2 rfl, h.own 3 rfl, ⟨?_, ?_, ?_, ?_, ?_, ?_⟩, hk⟩, ?_⟩
  · exact fun e => h.ne (i := 0) (j := 1) (by omega) rfl rfl _ rfl e
  · exact fun e => h.ne (i := 0) (j := 2) (by omega) rfl rfl _ rfl e
  · exact fun e => h.ne (i := 1) (j := 2) (by omega) rfl rfl _ rfl e
  · exact fun e => h.ne (i := 0) (j := 3) (by omega) rfl rfl _ rfl e
  · exact fun e => h.ne (i := 1) (j := 3) (by omega) rfl rfl _ rfl e
  · exact fun e => h.ne (i := 2) (j := 3) (by omega) rfl rfl _ rfl e
  · rintro i (rfl | rfl | rfl | hi)
    · exact .inl (.inl rfl)
    · exact .inl (.inr (.inl rfl))
    · exact .inl (.inr (.inr (.inl rfl)))
    · exact h.foot 3 rfl i hi

theorem check_any (D : Dk) (s : DS) (w : World) (hB0 : Blk w D.bd (dcells D s) 65) : Ret Try.prog 28 #[.pointer (some ⟨D.bd, 0, none⟩)] w fun r w' => r = vi (checkS s) ∧ Up w w' := by
  have hW := Up.refl w
  refine Calls_start (n := 12) (m := 9) Try.func28 rfl rfl rfl ?_
  refine CW.seq (CW.region (LW.p (PEv.assign (.const _)) rfl rfl rfl (LW.nil (KW.then (CW.seq (CW.block (CW.seq (CW.region (LW.p (PEv.move (.tmp rfl)) rfl rfl rfl ?_)))))))))
  refine LW.p (PEv.eqlNil Try.underlying23 (.tmp rfl)) rfl rfl rfl ?_
  refine LW.p (PEv.assign (.tmp rfl)) rfl rfl rfl (LW.nil (KW.then ?_))
  refine CW.cond_false (.tmp rfl) ?_
  refine CW.seq (CW.region (LW.p (PEv.move (.tmp rfl)) rfl rfl rfl ?_))
  refine LW.p (PEv.nilCheck (.tmp rfl)) rfl rfl rfl ?_
  refine LW.p (PEv.fieldAddr (off := 0) Try.underlying65 rfl rfl Try.sizeOf62 rfl (.tmp rfl)) rfl rfl rfl ?_
  refine LW.p (PEv.fieldAddr (off := 0) Try.underlying62 rfl rfl Try.sizeOf4 rfl (.tmp rfl)) rfl rfl rfl ?_
  refine LW.p (PEv.load Try.isAgg4 (.tmp rfl) (hB0.celln rfl)) rfl rfl rfl ?_
  refine LW.p (PEv.assign (.tmp rfl)) rfl rfl rfl (LW.nil (KW.then ?_))
  refine CW.cond (.tmp rfl) (fun h6 => ?_) (fun h6 => ?_)
  ·first | replace h6 := of_decide_eq_true h6 | replace h6 := of_decide_eq_false h6 | skip
   refine CW.seq (CW.region (LW.p (PEv.assign (.const _)) rfl rfl rfl (LW.nil (KW.then (CW.ret (KW.block_ret (KW.then_ret ?_)))))))
   refine KW.ret1 rfl rfl ⟨_, rfl, ?_⟩
   exact ⟨by simp [checkS, h6], hW⟩
  ·first | replace h6 := of_decide_eq_true h6 | replace h6 := of_decide_eq_false h6 | skip
   refine CW.skip (KW.inBlock (KW.then (CW.seq (CW.region (LW.p (PEv.assign (.const _)) rfl rfl rfl (LW.nil (KW.then (CW.ret ?_))))))))
   refine KW.ret1 rfl rfl ⟨_, rfl, ?_⟩
   exact ⟨by simp [checkS, h6], hW⟩

theorem check_nil (w : World) : Ret Try.prog 28 #[.pointer none] w fun r w' => r = vi 1 ∧ Up w w' := by
  have hW := Up.refl w
  refine Calls_start (n := 12) (m := 9) Try.func28 rfl rfl rfl ?_
  refine CW.seq (CW.region (LW.p (PEv.assign (.const _)) rfl rfl rfl (LW.nil (KW.then (CW.seq (CW.block (CW.seq (CW.region (LW.p (PEv.move (.tmp rfl)) rfl rfl rfl ?_)))))))))
  refine LW.p (PEv.eqlNil Try.underlying23 (.tmp rfl)) rfl rfl rfl ?_
  refine LW.p (PEv.assign (.tmp rfl)) rfl rfl rfl (LW.nil (KW.then ?_))
  refine CW.cond_true (.tmp rfl) ?_
  refine CW.seq (CW.region (LW.p (PEv.assign (.const _)) rfl rfl rfl (LW.nil (KW.then (CW.ret (KW.block_ret (KW.then_ret ?_)))))))
  refine KW.ret1 rfl rfl ⟨_, rfl, ?_⟩
  exact ⟨rfl, hW⟩

theorem inside_any (D : Dk) (s : DS) (w : World) (hB0 : Blk w D.bd (dcells D s) 65) (off m : Int) (hmax : s.dur.length ≤ 4194304) : Ret Try.prog 29 #[.pointer (some ⟨D.bd, 0, none⟩), vi off, vi m] w fun r w' => r = .bool (insideB s.dur.length off m) ∧ Up w w' := by
  have hW := Up.refl w
  refine Calls_start (n := 33) (m := 9) Try.func29 rfl rfl rfl ?_
  refine CW.seq (CW.region (LW.p (PEv.assign (.const _)) rfl rfl rfl (LW.nil (KW.then (CW.seq (CW.region (LW.p (PEv.move (.tmp rfl)) rfl rfl rfl ?_)))))))
  refine LW.p (PEv.geq (.tmp rfl) (.const _)) rfl rfl rfl ?_
  refine LW.p (PEv.move (.tmp rfl)) rfl rfl rfl ?_
  refine LW.g rfl rfl rfl rfl rfl rfl rfl (fun hc => PEv.move (.tmp rfl)) ?_
  refine LW.g rfl rfl rfl rfl rfl rfl rfl (fun hc => PEv.geq (by first | exact .tmp rfl | exact .cond rfl (by first | assumption | simp_all)) (.const _)) ?_
  refine LW.p (PEv.pick_and (.tmp rfl) (fun hp => (by first | exact .const _ | exact .tmp rfl | exact .cond rfl (by first | assumption | simp_all)))) rfl rfl rfl ?_
  refine LW.p (PEv.move (.tmp rfl)) rfl rfl rfl ?_
  refine LW.g rfl rfl rfl rfl rfl rfl rfl (fun hc => PEv.move (.tmp rfl)) ?_
  refine LW.g rfl rfl rfl rfl rfl rfl rfl (fun hc => PEv.move (.tmp rfl)) ?_
  refine LW.g rfl rfl rfl rfl rfl rfl rfl (fun hc => PEv.nilCheck (by first | exact .tmp rfl | exact .cond rfl (by first | assumption | simp_all))) ?_
  refine LW.g rfl rfl rfl rfl rfl rfl rfl (fun hc => PEv.fieldAddr (off := 2) Try.underlying65 rfl rfl Try.sizeOf40 rfl (by first | exact .tmp rfl | exact .cond rfl (by first | assumption | simp_all))) ?_
  refine LW.g rfl rfl rfl rfl rfl rfl rfl (fun hc => PEv.load Try.isAgg40 (by first | exact .tmp rfl | exact .cond rfl (by first | assumption | simp_all)) (hB0.celln rfl)) ?_
  refine LW.g rfl rfl rfl rfl rfl rfl rfl (fun hc => PEv.lenS Try.underlying40 (by first | exact .tmp rfl | exact .cond rfl (by first | assumption | simp_all))) ?_
  refine LW.g rfl rfl rfl rfl rfl rfl rfl (fun hc => PEv.leq (by first | exact .tmp rfl | exact .cond rfl (by first | assumption | simp_all)) (by first | exact .tmp rfl | exact .cond rfl (by first | assumption | simp_all))) ?_
  refine LW.p (PEv.pick_and (.tmp rfl) (fun hp => (by first | exact .const _ | exact .tmp rfl | exact .cond rfl (by first | assumption | simp_all)))) rfl rfl rfl ?_
  refine LW.p (PEv.move (.tmp rfl)) rfl rfl rfl ?_
  refine LW.g rfl rfl rfl rfl rfl rfl rfl (fun hc => PEv.move (.tmp rfl)) ?_
  refine LW.g rfl rfl rfl rfl rfl rfl rfl (fun hc => PEv.move (.tmp rfl)) ?_
  refine LW.g rfl rfl rfl rfl rfl rfl rfl (fun hc => PEv.nilCheck (by first | exact .tmp rfl | exact .cond rfl (by first | assumption | simp_all))) ?_
  refine LW.g rfl rfl rfl rfl rfl rfl rfl (fun hc => PEv.fieldAddr (off := 2) Try.underlying65 rfl rfl Try.sizeOf40 rfl (by first | exact .tmp rfl | exact .cond rfl (by first | assumption | simp_all))) ?_
  refine LW.g rfl rfl rfl rfl rfl rfl rfl (fun hc => PEv.load Try.isAgg40 (by first | exact .tmp rfl | exact .cond rfl (by first | assumption | simp_all)) (hB0.celln rfl)) ?_
  refine LW.g rfl rfl rfl rfl rfl rfl rfl (fun hc => PEv.lenS Try.underlying40 (by first | exact .tmp rfl | exact .cond rfl (by first | assumption | simp_all))) ?_
  refine LW.g rfl rfl rfl rfl rfl rfl rfl (fun hc => PEv.move (.tmp rfl)) ?_
  refine LW.g rfl rfl rfl rfl rfl rfl rfl (fun hc => PEv.sub (by first | exact .cond rfl (by first | assumption | simp_all)) (by first | exact .cond rfl (by first | assumption | simp_all)) (by simp at hc; omega) (by simp at hc; omega)) ?_
  refine LW.g rfl rfl rfl rfl rfl rfl rfl (fun hc => PEv.leq (by first | exact .tmp rfl | exact .cond rfl (by first | assumption | simp_all)) (by first | exact .tmp rfl | exact .cond rfl (by first | assumption | simp_all))) ?_
  refine LW.p (PEv.pick_and (.tmp rfl) (fun hp => (by first | exact .const _ | exact .tmp rfl | exact .cond rfl (by first | assumption | simp_all)))) rfl rfl rfl ?_
  refine LW.p (PEv.assign (.tmp rfl)) rfl rfl rfl (LW.nil (KW.then (CW.ret ?_)))
  refine KW.ret1 rfl rfl ⟨_, rfl, ?_⟩
  exact ⟨congrArg Go.Value.bool (by simp [insideB]), hW⟩

end Go.Proofs.Ytkpkljbmbmjadaa
