-- JOINED BY A PROGRAM OF THIS PLACE (wip/tools/pack.py) out of: PureHashGrows
import Derived.Test.YtkbbdbnjplcjdaaM23
import Derived.Test.YtkbbdbnjplcjdaaM31
section
/-
  The plain statement of HashGrows: a beginning's proof shows that its root is that of the beginning.
-/
namespace Go.Proofs.Ytkbbdbnjplcjdaa.Pure
open Go.RowKit Go.Proofs.Ytkbbdbnjplcjdaa Go.Proofs.Ytkbbdbnjplcjdaa.F Go.Proofs.YtkbbdbnjplcjdaaW.PrintWords Go.Proofs.YtkbbdbnjplcjdaaW.PrintLast
set_option linter.unusedVariables false
set_option linter.unusedSimpArgs false
theorem HashGrows (l : List (List Int)) (y1 : l.length * 24 ≤ 140737488351232) (y2 : ∀ r ∈ l, r.length ≤ 140737488351232) (hb : ∀ r ∈ l, ∀ x ∈ r, 0 ≤ x ∧ x < 256) (a : Int) (wa : (Lit.int .i64 a).wf = true) : ∃ k, sawyerlaw15_HashGrows.f k l a = some true := by
  refine Ev.rounds ?_
  refine Ev.congr (fun k => rfl) (Ev.bind awake_ev (Ev.bind (leaves_ev l y2 hb) ?_))
  have hlen := leaves_length l
  have hsz := leaves_sized l
  generalize leavesOf l = h at hlen hsz ⊢
  by_cases h0 : h.length = 0
  · exact Ev.congr (fun k => if_pos (by omega)) (Ev.now _)
  · obtain ⟨i, hi, hin⟩ := picked a h.length (by omega)
    have hs := smalls_32 hsz
    have hnn : ¬ ((h.length : Int) = 0) := by omega
    have hw : wrap64 (1 + (i : Int)) = ((i + 1 : Nat) : Int) := by unfold wrap64; omega
    have p0 : (0 : Int) ≤ ((i + 1 : Nat) : Int) := by omega
    have p1 : ((i + 1 : Nat) : Int) ≤ (h.length : Int) := by omega
    have e1 := proof_ev h ((i + 1 : Nat) : Int) (by omega) hs
    rw [proofR_in h (i + 1) (by omega) (by omega)] at e1
    have hst : smalls (h.take (i + 1)) := smalls_take hs _
    have er1 := root_ev (h.take (i + 1)).length (h.take (i + 1)) rfl (by simp; omega) hst
    have er := root_ev h.length h rfl (by omega) hs
    have c1 : hash_CheckProof.f ((i + 1 : Nat) : Int) (h.length : Int) (Hs.sub (i + 1) h true) (Hs.root (h.take (i + 1))) (Hs.root h) = some 0 := congrArg some (checkProof_own h (i + 1) (by omega) (by omega) (by omega) hsz)
    have c2 : hash_CheckProof.f 0 (h.length : Int) (Hs.sub (i + 1) h true) (⟨#[]⟩ : ByteArray) (⟨#[]⟩ : ByteArray) = some 8 := congrArg some (checkProof_none _ _ _ _)
    simp only [hi, if_neg hnn, hw]
    refine Ev.bind e1 ?_
    simp only [if_true, if_pos p0, if_pos p1, Int.toNat_natCast]
    refine Ev.bind er1 (Ev.bind er ?_)
    simp only [c1, c2, Option.bind_some, if_true]
    by_cases hm : ((i + 1 : Nat) : Int) < (h.length : Int)
    · simp only [if_pos hm]
      exact Ev.now _
    · have hm2 : i + 1 = h.length := by omega
      have hsub : Hs.sub (i + 1) h true = [] := by rw [hm2, Hs.sub_all, if_pos rfl]
      simp only [if_neg hm, hsub, List.length_nil]
      exact Ev.now _
end Go.Proofs.Ytkbbdbnjplcjdaa.Pure
end
