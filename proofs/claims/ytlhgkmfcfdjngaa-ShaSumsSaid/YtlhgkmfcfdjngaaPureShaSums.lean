/-
  The plain statement of ShaSums: the hash by the program is the hash by the document, and has 32 bytes.
-/
import Derived.Test.YtlhgkmfcfdjngaaF10
import Derived.Test.YtlhgkmfcfdjngaaRef01
namespace Go.Proofs.Ytlhgkmfcfdjngaa.Pure
open Go.RowKit Go.Proofs.Ytlhgkmfcfdjngaa Go.Proofs.Ytlhgkmfcfdjngaa.F Go.Proofs.YtlhgkmfcfdjngaaW.PrintWords Go.Proofs.YtlhgkmfcfdjngaaW.PrintLast
set_option linter.unusedVariables false
set_option linter.unusedSimpArgs false

theorem ShaSums (l : List Int) (hl : l.length * 1 ≤ 140737488351232) (hb : ∀ x ∈ l, 0 ≤ x ∧ x < 256) : ∃ k, sawyerlaw01_ShaSums.f k l = some true := by
  have hok : Sha.ok l = true := (ok_iff l).2 ⟨hb, by omega⟩
  refine Ev.rounds (Ev.congr (f := fun k => (sawyerref01_Sum.f k l).bind fun t => some ((Sha.sum l).toList == t.toList)) (fun k => ?_) (Ev.bind (f := fun _ t => some ((Sha.sum l).toList == t.toList)) (ref_sum l hok) ?_))
  · unfold sawyerlaw01_ShaSums.f sha_Sum.f
    rw [if_pos hok]
    simp only [Option.bind_some]
    rw [if_pos (by rw [Sha.sum_size]; rfl)]
  · simp only [beq_self_eq_true]
    exact Ev.now _
end Go.Proofs.Ytlhgkmfcfdjngaa.Pure
