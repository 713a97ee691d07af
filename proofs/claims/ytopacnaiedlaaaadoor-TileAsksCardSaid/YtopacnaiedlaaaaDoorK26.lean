-- JOINED BY A PROGRAM OF THIS PLACE (wip/tools/pack.py) out of: HsSmall
import Derived.Test.YtopacnaiedlaaaaDoorK4
import Derived.Test.YtopacnaiedlaaaaDoorK6
import Derived.Test.YtopacnaiedlaaaaDoorK10
import Derived.Test.YtopacnaiedlaaaaDoorK24
section
/-
  hash.Node, hash.Leaf, hash.cut, as the plain text Hs has them.
-/
namespace Go.Proofs.YtopacnaiedlaaaaDoor.F
open Go.RowKit Go.Proofs.YtopacnaiedlaaaaDoor Go.Proofs.YtopacnaiedlaaaaDoorW.PrintWords Go.Proofs.YtopacnaiedlaaaaDoorW.PrintLast Go.Proofs.YtopacnaiedlaaaaDoorW.PrintMore
set_option linter.unusedVariables false
set_option linter.unusedSimpArgs false
theorem shl_one (e : Nat) (he : e ≤ 62) : shl .i64 1 (e : Int) = ((2 ^ e : Nat) : Int) := by
  have h : ∀ j : Fin 63, shl .i64 1 ((j.val : Nat) : Int) = ((2 ^ j.val : Nat) : Int) := by decide +kernel
  exact h ⟨e, by omega⟩
end Go.Proofs.YtopacnaiedlaaaaDoor.F
end
