-- JOINED BY A PROGRAM OF THIS PLACE (wip/tools/pack.py) out of: PureHashCollides
import Derived.Test.YtkbbdbnjplcjdaaC18
import Derived.Test.YtkbbdbnjplcjdaaC20
section
/-
  The plain statement of HashCollides.
-/
namespace Go.Proofs.Ytkbbdbnjplcjdaa.Pure
open Go.RowKit Go.Proofs.Ytkbbdbnjplcjdaa Go.Proofs.Ytkbbdbnjplcjdaa.F Go.Proofs.YtkbbdbnjplcjdaaW.PrintWords Go.Proofs.YtkbbdbnjplcjdaaW.PrintLast Go.Proofs.YtkbbdbnjplcjdaaW.PrintMore
set_option linter.unusedVariables false
set_option linter.unusedSimpArgs false
theorem HashCollides (a0 : Int) (w0 : (Lit.int .i64 a0).wf = true) (a1 : Int) (w1 : (Lit.int .i64 a1).wf = true) (a2 : ByteArray) (w2 : a2.size ≤ 140737488351232) (l3 : List ByteArray) (y31 : l3.length * 16 ≤ 140737488351232) (y32 : ∀ s ∈ l3, s.size ≤ 140737488351232) (a4 : ByteArray) (w4 : a4.size ≤ 140737488351232) (l5 : List ByteArray) (y51 : l5.length * 16 ≤ 140737488351232) (y52 : ∀ s ∈ l5, s.size ≤ 140737488351232) :
    ∃ k, sawyerlaw15_HashCollides.f k a0 a1 a2 l3 a4 l5 = some true := by
  refine Ev.rounds ?_
  refine Ev.congr (fun k => rfl) (Ev.bind awake_ev ?_)
  refine Ev.congr (f := fun _ => some true) (fun k => ?_) (Ev.now _)
  simp only [hash_Collide.f, sawyerref15_Collide.f, Option.bind_some, if_true, beq_self_eq_true]
end Go.Proofs.Ytkbbdbnjplcjdaa.Pure
end
