-- JOINED BY A PROGRAM OF THIS PLACE (wip/tools/pack.py) out of: TOpen
import Derived.Test.YtopacnaiedlaaaaDoorRows
import Derived.ProofKit
import Derived.Lib.LaidTab
import Derived.MakeChecks
import Derived.LaidMore
import Derived.Stop.Joined
import Derived.Stop.LaidErr
import Derived.Test.YtopacnaiedlaaaaDoorL10
section
/-
  What the tile rows' listed tables give, and a world in which they lie as their initialisers lay them.
-/
namespace Go.Proofs.YtopacnaiedlaaaaDoor
open Go.RowKit Go.WideShapes Go.ChangeAt
set_option linter.unusedVariables false
theorem own : ownKnob Tryd.prog.godebug = none := by kernel_rfl
theorem g64 : Tryd.prog.globalNamed "math/bits.deBruijn64tab" = some 1 := by kernel_rfl
theorem g64Type : (Tryd.prog.globals[1]?).map (·.type) = some 96 := by kernel_rfl
theorem cells64 : Tryd.prog.cellsOf 96 = 64 := by kernel_rfl
theorem cells1 : Tryd.prog.cellsOf 5 = 1 := by kernel_rfl
abbrev tabs : List (String × DataW Unit) := [("math/bits.deBruijn32tab", Rows.laid_math_bits_deBruijn32tab), ("math/bits.deBruijn64tab", Rows.laid_math_bits_deBruijn64tab)]
def ints64 : List Int := Lib.deBruijn64tab.map Int.ofNat
theorem laid64 : (Rows.laid_math_bits_deBruijn64tab : DataW Unit) = Lib.tabData .u8 ints64 := by kernel_rfl
theorem tab_of {W : World} (h : laidMetH Tryd.prog tabs W) : Tab W := by
  rw [MakeChecks.laidMetH_plain _ _ _ (by kernel_rfl)] at h
  have h1 := laidMet.tail h
  rw [laid64] at h1
  have h2 := Lib.tabIs_of_head (rest := []) g64 g64Type Tryd.underlying96 Tryd.underlying5 cells1 cells64 h1
  intro j hj
  have h3 := h2.cell g64 j (by unfold ints64; rw [List.length_map]; exact hj)
  rw [h3]
  unfold ints64
  rw [List.getD_eq_getElem?_getD, List.getElem?_map, List.getD_eq_getElem?_getD, List.getElem?_eq_getElem hj]
  rfl
def lay (tab : List Nat) : Obj → Obj
  | .cells _ t frozen => .cells (tab.map fun x => Value.int .u8 (Int.ofNat x)).toArray t frozen
  | o => o
/-- the settled world, the two tables holding what their initialisers lay -/
noncomputable def laidWorld (os : Os) : World :=
  { World.holding Tryd.prog os ⟨#[], #[], []⟩ with heap := ((World.holding Tryd.prog os ⟨#[], #[], []⟩).heap.modify 0 (lay Lib.deBruijn32tab)).modify 1 (lay Lib.deBruijn64tab) }
end Go.Proofs.YtopacnaiedlaaaaDoor
end
