-- JOINED BY A PROGRAM OF THIS PLACE (wip/tools/pack.py) out of: PureBloomAsks
import Derived.Test.YtojabcadoajbjaaK17
import Derived.Test.YtojabcadoajbjaaK19
section
/-
  The plain statement of BloomAsks.
-/
namespace Go.Proofs.Ytojabcadoajbjaa.Pure
open Go.RowKit Go.Proofs.Ytojabcadoajbjaa Go.Proofs.Ytojabcadoajbjaa.F Go.Proofs.YtojabcadoajbjaaW.PrintWords Go.Proofs.YtojabcadoajbjaaW.PrintLast Go.Proofs.YtojabcadoajbjaaW.PrintMore
set_option linter.unusedVariables false
set_option linter.unusedSimpArgs false
theorem BloomAsks (f : List Int) (y1 : f.length * 1 ≤ 140737488351232) (hf : ∀ x ∈ f, 0 ≤ x ∧ x < 256) (key : List Int) (y2 : key.length * 1 ≤ 140737488351232) (hk : ∀ x ∈ key, 0 ≤ x ∧ x < 256) : ∃ k, sawyerlaw07_BloomAsks.f k f key = some true := by
  refine Ev.rounds ?_
  refine Ev.congr (f := fun k => (sawyerref07_Has.f k f key).bind fun t166 => some (hasB f key == t166)) (fun k => ?_) (Ev.bind (rhas_ev f key (by omega) (by omega) hf) ?_)
  · simp only [sawyerlaw07_BloomAsks.f, awake_some, Option.bind_some, if_true, has_some f key (by omega) (by omega)]
  · simp only [beq_self_eq_true]
    exact Ev.now _
end Go.Proofs.Ytojabcadoajbjaa.Pure
end
