import Derived.Test.YtdkfjllchhoojaaNums
namespace Go.Proofs
open Go.Wx Go.RowKit
theorem Try.eqFact (f g : Fact) (w : World) : (Op.equalIn 10000 23 (.agg f.cells) (.agg g.cells)).run Try.prog w = .ok (Fact.eqb f g) w := by
  have hf : Try.prog.underlying 23 = some (.struct (Try.prog.fieldsOf 23)) := by rw [Program.fieldsOf, Try.underlying23]
  rw [run_equalIn_agg w 9999 23 _ _ hf Try.stoodInHeld23]
  have h : (Op.eqFields 9999 f.cells g.cells (Try.prog.fieldsOf 23).toList).run Try.prog w = .ok (Fact.eqb f g) w := by
    rw [Program.fieldsOf, Try.underlying23]
    dsimp only
    iterate 4 (refine eqStep (by decide) Try.isAgg3 rfl rfl (run_equalIn_int w 9998 _ _ _ _ _ Try.underlying3) ?_)
    refine eqStep (by decide) Try.isAgg4 rfl rfl (run_equalIn_bool' w 9998 _ _ _ Try.underlying4) ?_
    iterate 13 (refine eqStep (by decide) Try.isAgg3 rfl rfl (run_equalIn_int w 9998 _ _ _ _ _ Try.underlying3) ?_)
    rw [show (f.Text.toList == g.Text.toList) = ((f.Text.toList == g.Text.toList) && true) by simp]
    exact eqStep (by decide) Try.isAgg9 rfl rfl (run_equalIn_string w 9998 _ _ _ Try.underlying9) rfl
  exact h

end Go.Proofs
