-- JOINED BY A PROGRAM OF THIS PLACE (wip/tools/pack.py) out of: PureTileFolds
import Derived.Test.YtopacnaiedlaaaaDoorL41
import Derived.Test.YtopacnaiedlaaaaDoorL43
section
/-
  The plain statement of TileFolds (of bounded bulk): any hashes as one are what the document says.
-/
namespace Go.Proofs.YtopacnaiedlaaaaDoor.Pure
open Go.RowKit Go.Proofs.YtopacnaiedlaaaaDoor Go.Proofs.YtopacnaiedlaaaaDoor.F Go.Proofs.YtopacnaiedlaaaaDoorW.PrintWords Go.Proofs.YtopacnaiedlaaaaDoorW.PrintLast Go.Proofs.YtopacnaiedlaaaaDoorW.PrintMore
set_option linter.unusedVariables false
set_option linter.unusedSimpArgs false
theorem TileFolds (l : List ByteArray) (y1 : l.length * 16 ≤ 140737488351232) (y2 : ∀ s ∈ l, s.size ≤ 140737488351232) (b1 : l.length ≤ 1048576) (b2 : ∀ s ∈ l, s.size ≤ 1048576) : ∃ k, sawyerlaw17_TileFolds.f k l = some true := by
  have hs : smalls l := fun x hx => by
    have := b2 x hx
    unfold small
    omega
  refine Ev.rounds ?_
  unfold sawyerlaw17_TileFolds.f
  refine Ev.bind awake_ev ?_
  by_cases h : (l.length : Int) > 300
  · exact Ev.congr (fun k => if_pos h) (Ev.now _)
  · refine Ev.congr (f := fun k => (sawyerref16_Fold.f k l).bind fun t => some ((foldR l).toList == t.toList)) (fun k => ?_) (Ev.bind (f := fun _ t => some ((foldR l).toList == t.toList)) (rfold_ev l hs (by omega)) (Ev.congr (fun _ => ?_) (Ev.now _)))
    · rw [if_neg h, if_pos rfl, tileFold_some l hs (by omega), Option.bind_some]
    · rw [beq_self_eq_true]
end Go.Proofs.YtopacnaiedlaaaaDoor.Pure
end
