-- JOINED BY A PROGRAM OF THIS PLACE (wip/tools/pack.py) out of: PureHashPaths
import Derived.Test.YtkbbdbnjplcjdaaM21
import Derived.Test.YtkbbdbnjplcjdaaM31
section
/-
  The plain statements of HashPaths and HashGrows: a leaf's path proves it, a beginning's proof shows it.
-/
namespace Go.Proofs.Ytkbbdbnjplcjdaa.Pure
open Go.RowKit Go.Proofs.Ytkbbdbnjplcjdaa Go.Proofs.Ytkbbdbnjplcjdaa.F Go.Proofs.YtkbbdbnjplcjdaaW.PrintWords Go.Proofs.YtkbbdbnjplcjdaaW.PrintLast
set_option linter.unusedVariables false
set_option linter.unusedSimpArgs false
theorem HashPaths (l : List (List Int)) (y1 : l.length * 24 ≤ 140737488351232) (y2 : ∀ r ∈ l, r.length ≤ 140737488351232) (hb : ∀ r ∈ l, ∀ x ∈ r, 0 ≤ x ∧ x < 256) (a : Int) (wa : (Lit.int .i64 a).wf = true) : ∃ k, sawyerlaw15_HashPaths.f k l a = some true := by
  refine Ev.rounds ?_
  refine Ev.congr (fun k => rfl) (Ev.bind awake_ev (Ev.bind (leaves_ev l y2 hb) ?_))
  have hlen := leaves_length l
  have hsz := leaves_sized l
  have hat := leaves_at l
  generalize leavesOf l = h at hlen hsz hat ⊢
  by_cases h0 : h.length = 0
  · exact Ev.congr (fun k => if_pos (by omega)) (Ev.now _)
  · obtain ⟨i, hi, hin⟩ := picked a h.length (by omega)
    have hs := smalls_32 hsz
    have hnn : ¬ ((h.length : Int) = 0) := by omega
    have p0 : (0 : Int) ≤ (i : Int) := by omega
    have p1 : (i : Int) < (l.length : Int) := by omega
    have p2 : (i : Int) < (h.length : Int) := by omega
    have e1 := path_ev h (i : Int) (by omega) hs
    have e2 := path_ev h (h.length : Int) (by omega) hs
    rw [pathR_in h i hin] at e1
    rw [pathR_out] at e2
    have hl : hash_Leaf.f (rd_L3 l (i : Int)) = some (h.getD i ByteArray.empty) := by
      rw [hat i hin]
      exact leaf_some _ (byte_rows l hb i) (small_rows l y2 i)
    have er := root_ev h.length h rfl (by omega) hs
    have c1 := checkPath_ev (h.getD i ByteArray.empty) (i : Int) (h.length : Int) (Hs.path h i) (Hs.root h)
    rw [checkPath_own h i hin (by omega) hsz] at c1
    have c2 := checkPath_ev (rdOf ByteArray.empty h (i : Int)) (h.length : Int) (h.length : Int) (Hs.path h i) (Hs.root h)
    rw [checkPath_range] at c2
    simp only [hi, if_neg hnn]
    refine Ev.bind e1 (Ev.bind e2 ?_)
    simp only [if_true, if_pos p0, if_pos p1, hl, Option.bind_some]
    refine Ev.bind er (Ev.bind c1 ?_)
    simp only [if_true, if_pos p2]
    exact Ev.bind er (Ev.bind c2 (Ev.now _))
end Go.Proofs.Ytkbbdbnjplcjdaa.Pure
end
