/-
  The plain statement of ShaMacs: the code by the program is the code by the document, and has 32 bytes.
-/
import Derived.Test.YtlhgkmfcfdjngaaF11
namespace Go.Proofs.Ytlhgkmfcfdjngaa.Pure
open Go.RowKit Go.Proofs.Ytlhgkmfcfdjngaa Go.Proofs.Ytlhgkmfcfdjngaa.F Go.Proofs.YtlhgkmfcfdjngaaW.PrintWords Go.Proofs.YtlhgkmfcfdjngaaW.PrintLast
set_option linter.unusedVariables false
set_option linter.unusedSimpArgs false

theorem ShaMacs (k : List Int) (hk : k.length * 1 ≤ 140737488351232) (hkb : ∀ x ∈ k, 0 ≤ x ∧ x < 256) (l : List Int) (hl : l.length * 1 ≤ 140737488351232) (hb : ∀ x ∈ l, 0 ≤ x ∧ x < 256) : sawyerlaw01_ShaMacs.f k l = some true := by
  have hok : Sha.macOk k l = true := (Sha.macOk_iff k l).2 ⟨Sha.ok_of k hkb (by omega), Sha.ok_of l hb (by omega), by omega⟩
  unfold sawyerlaw01_ShaMacs.f sha_Mac.f sawyerref01_Mac.f
  have hz : ((Sha.mac k l).size : Int) = 32 := by rw [show (Sha.mac k l).size = 32 from Sha.sum_size _]; rfl
  simp only [if_pos hok, Option.bind_some, hz, beq_self_eq_true, ite_true]
end Go.Proofs.Ytlhgkmfcfdjngaa.Pure
