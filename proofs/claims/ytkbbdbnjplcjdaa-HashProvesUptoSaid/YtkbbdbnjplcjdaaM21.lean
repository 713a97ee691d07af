-- JOINED BY A PROGRAM OF THIS PLACE (wip/tools/pack.py) out of: PureHashA
import Derived.Test.YtkbbdbnjplcjdaaM17
import Derived.Test.YtkbbdbnjplcjdaaM18
import Derived.Test.YtkbbdbnjplcjdaaM19
import Derived.Test.YtkbbdbnjplcjdaaM20
section
/-
  The plain statements of HashRoots, HashProves (of bounded bulk): the program's answers are the document's.
-/
namespace Go.Proofs.Ytkbbdbnjplcjdaa.Pure
open Go.RowKit Go.Proofs.Ytkbbdbnjplcjdaa Go.Proofs.Ytkbbdbnjplcjdaa.F Go.Proofs.YtkbbdbnjplcjdaaW.PrintWords Go.Proofs.YtkbbdbnjplcjdaaW.PrintLast
set_option linter.unusedVariables false
set_option linter.unusedSimpArgs false
theorem smalls_bulk {l : List ByteArray} (h : ∀ s ∈ l, s.size ≤ 1048576) : smalls l := fun x hx => by
  have := h x hx
  unfold small
  omega
theorem HashRoots (l : List ByteArray) (y1 : l.length * 16 ≤ 140737488351232) (y2 : ∀ s ∈ l, s.size ≤ 140737488351232) (b1 : l.length ≤ 1048576) (b2 : ∀ s ∈ l, s.size ≤ 1048576) (b : List Int) (yb : b.length * 1 ≤ 140737488351232) (hb : ∀ x ∈ b, 0 ≤ x ∧ x < 256)
    (x : ByteArray) (hx : x.size ≤ 140737488351232) (bx : x.size ≤ 1048576) (y : ByteArray) (hy : y.size ≤ 140737488351232) (by_ : y.size ≤ 1048576) : ∃ k, sawyerlaw15_HashRoots.f k l b x y = some true := by
  have hs := smalls_bulk b2
  refine Ev.rounds ?_
  refine Ev.congr (fun k => rfl) (Ev.bind awake_ev ?_)
  by_cases h200 : (l.length : Int) > 200
  · exact Ev.congr (fun k => if_pos h200) (Ev.now _)
  · refine Ev.congr (fun k => ?_) (Ev.bind (f := fun k t352 => (if (Hs.leaf b).toList = t352.toList then ((hash_Node.f x y).bind fun t353 => ((sawyerref15_Node.f x y).bind fun t354 => (if t353.toList = t354.toList then ((hash_Root.f k l).bind fun t355 => ((sawyerref15_Root.f k l).bind fun t356 => (some (t355.toList == t356.toList)))) else (some false)))) else (some false))) (rleaf_some b hb (by omega)) ?_)
    · rw [if_neg h200, if_pos rfl, leaf_some b hb (by omega), Option.bind_some]
    · refine Ev.congr (f := fun k => (hash_Root.f k l).bind fun t355 => ((sawyerref15_Root.f k l).bind fun t356 => (some (t355.toList == t356.toList)))) (fun k => ?_) (Ev.bind (root_ev l.length l rfl (by omega) hs) (Ev.bind (f := fun _ t356 => some ((Hs.root l).toList == t356.toList)) (rroot_ev l.length l rfl (by omega) hs) ?_))
      · rw [if_pos rfl, node_some x y (by omega), Option.bind_some, rnode_some x y (by omega), Option.bind_some, if_pos rfl]
      · rw [beq_self_eq_true]
        exact Ev.now _
theorem path_lens (l : List ByteArray) (i : Int) (hn : l.length ≤ 1048576) : (pathR l i).1.length ≤ 9223372036854775806 := by
  unfold pathR
  split
  · have := sides_60 i.toNat l.length (by omega)
    rw [Hs.path_length]
    omega
  · simp
theorem proof_lens (l : List ByteArray) (m : Int) (hn : l.length ≤ 1048576) : (proofR l m).1.length ≤ 9223372036854775806 := by
  unfold proofR
  split
  · have := sub_le l.length 60 m.toNat l true rfl (by omega)
    show (Hs.sub m.toNat l true).length ≤ _
    omega
  · simp
theorem HashProves (l : List ByteArray) (y1 : l.length * 16 ≤ 140737488351232) (y2 : ∀ s ∈ l, s.size ≤ 140737488351232) (b1 : l.length ≤ 1048576) (b2 : ∀ s ∈ l, s.size ≤ 1048576) (i : Int) (wi : (Lit.int .i64 i).wf = true) (m : Int) (wm : (Lit.int .i64 m).wf = true) : ∃ k, sawyerlaw15_HashProves.f k l i m = some true := by
  have hs := smalls_bulk b2
  refine Ev.rounds ?_
  refine Ev.congr (fun k => rfl) (Ev.bind awake_ev ?_)
  by_cases h200 : (l.length : Int) > 200
  · exact Ev.congr (fun k => if_pos h200) (Ev.now _)
  · refine Ev.congr (fun k => if_neg h200) (Ev.bind (path_ev l i (by omega) hs) (Ev.bind (rpath_ev l i (by omega) hs) (Ev.bind (proof_ev l m (by omega) hs) (Ev.bind (rproof_ev l m (by omega) hs) ?_))))
    refine Ev.congr (f := fun k => (sawyerref15_Same.f k (pathR l i).1 (pathR l i).1).bind fun t423 => (if t423 = true then (if (proofR l m).2 = (proofR l m).2 then ((sawyerref15_Same.f k (proofR l m).1 (proofR l m).1).bind fun t424 => (some t424)) else (some false)) else (some false))) (fun k => ?_) (Ev.bind (same_some _ (path_lens l i b1)) (Ev.congr (f := fun k => (sawyerref15_Same.f k (proofR l m).1 (proofR l m).1).bind fun t424 => (some t424)) (fun k => ?_) (Ev.bind (f := fun _ t => some t) (same_some _ (proof_lens l m b1)) (Ev.now _))))
    · rw [if_pos rfl, if_pos rfl]
    · rw [if_pos rfl, if_pos rfl]
end Go.Proofs.Ytkbbdbnjplcjdaa.Pure
end
