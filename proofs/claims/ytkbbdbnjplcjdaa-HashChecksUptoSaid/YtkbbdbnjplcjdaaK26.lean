-- JOINED BY A PROGRAM OF THIS PLACE (wip/tools/pack.py) out of: Bulk
import Derived.Test.YtkbbdbnjplcjdaaRows
import Derived.WalkKit
import Derived.ProofKit
section
/-
  What the bound of an '..UptoSaid' gives for an argument.
-/
namespace Go.Proofs.Ytkbbdbnjplcjdaa
open Go.ChangeShapes Go.WideShapes
set_option linter.unusedVariables false
set_option linter.unusedSimpArgs false
theorem bulk_part {H : Type} {d : DataW H} {l : List (DataW H)} (h : d ∈ l) : Rows.uptoBulk d ≤ Rows.uptoBulkAll l := by
  induction l with
  | nil => cases h
  | cons x r ih =>
    simp only [Rows.uptoBulkAll]
    cases List.mem_cons.1 h with
    | inl e => subst e; omega
    | inr e => have := ih e; omega
theorem bulk_string {H : Type} {l : List (DataW H)} {a : ByteArray} (hk : Rows.uptoSmall H l = true) (h : DataW.lit (.string a.data.toList) ∈ l) : a.size ≤ 1048576 := by
  have h1 := bulk_part h
  have h2 : Rows.uptoBulkAll l ≤ 1048576 := by simpa [Rows.uptoSmall] using hk
  simp only [Rows.uptoBulk, Array.length_toList] at h1
  have h3 : a.size = a.data.size := rfl
  omega
end Go.Proofs.Ytkbbdbnjplcjdaa
end
