-- JOINED BY A PROGRAM OF THIS PLACE (wip/tools/pack.py) out of: PureHashChecks
import Derived.Test.YtkbbdbnjplcjdaaK18
import Derived.Test.YtkbbdbnjplcjdaaK20
import Derived.Test.YtkbbdbnjplcjdaaK23
section
/-
  The plain statement of HashChecks (of bounded bulk): the program's checks are the document's.
-/
namespace Go.Proofs.Ytkbbdbnjplcjdaa.Pure
open Go.RowKit Go.Proofs.Ytkbbdbnjplcjdaa Go.Proofs.Ytkbbdbnjplcjdaa.F Go.Proofs.YtkbbdbnjplcjdaaW.PrintWords Go.Proofs.YtkbbdbnjplcjdaaW.PrintLast
set_option linter.unusedVariables false
set_option linter.unusedSimpArgs false
theorem HashChecks (x : ByteArray) (hx : x.size ≤ 140737488351232) (bx : x.size ≤ 1048576) (i : Int) (wi : (Lit.int .i64 i).wf = true) (n : Int) (wn : (Lit.int .i64 n).wf = true) (l : List ByteArray) (y1 : l.length * 16 ≤ 140737488351232) (y2 : ∀ s ∈ l, s.size ≤ 140737488351232) (b1 : l.length ≤ 1048576) (b2 : ∀ s ∈ l, s.size ≤ 1048576)
    (y : ByteArray) (hy : y.size ≤ 140737488351232) (by_ : y.size ≤ 1048576) (m : Int) (wm : (Lit.int .i64 m).wf = true) : ∃ k, sawyerlaw15_HashChecks.f k x i n l y m = some true := by
  refine Ev.rounds ?_
  refine Ev.congr (fun k => rfl) (Ev.bind awake_ev ?_)
  have hsm : smallB (x :: l) = true := by
    unfold smallB
    rw [List.all_eq_true]
    intro s hs
    refine decide_eq_true ?_
    rcases List.mem_cons.1 hs with rfl | hs
    · omega
    · have := b2 s hs; omega
  have c1 : hash_CheckProof.f m n l x y = some (Hs.checkProof m n l x y) := rfl
  have c2 : sawyerref15_CheckProof.f m n l x y = some (Hs.checkProof m n l x y) := if_pos ⟨hsm, by omega⟩
  simp only [if_true]
  refine Ev.bind (checkPath_ev x i n l y) (Ev.bind (rcheckPath_ev x i n l y (by omega)) ?_)
  simp only [if_true, c1, c2, Option.bind_some, beq_self_eq_true]
  exact Ev.now _
end Go.Proofs.Ytkbbdbnjplcjdaa.Pure
end
