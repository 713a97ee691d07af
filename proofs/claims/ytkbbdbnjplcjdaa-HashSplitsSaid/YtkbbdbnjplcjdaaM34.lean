-- JOINED BY A PROGRAM OF THIS PLACE (wip/tools/pack.py) out of: PureHashSplits
import Derived.Test.YtkbbdbnjplcjdaaM24
import Derived.Test.YtkbbdbnjplcjdaaM31
section
/-
  The plain statement of HashSplits: the root is the node of both sides' roots.
-/
namespace Go.Proofs.Ytkbbdbnjplcjdaa.Pure
open Go.RowKit Go.Proofs.Ytkbbdbnjplcjdaa Go.Proofs.Ytkbbdbnjplcjdaa.F Go.Proofs.YtkbbdbnjplcjdaaW.PrintWords Go.Proofs.YtkbbdbnjplcjdaaW.PrintLast
set_option linter.unusedVariables false
set_option linter.unusedSimpArgs false
theorem splits_from (h : List ByteArray) (hsz : sized h) (h2 : 2 ≤ h.length) (hn : h.length ≤ 70) (d : Nat) : ∀ j, 2 ^ j < h.length → h.length ≤ 2 ^ j + d → Ev (fun k => sawyerlaw15_HashSplits.l0 k true h ((2 ^ j : Nat) : Int)) true := by
  have hs := smalls_32 hsz
  induction d using Nat.strongRecOn with
  | ind d ih =>
    intro j hj hd
    have hw : wrap64 (2 * ((2 ^ j : Nat) : Int)) = ((2 ^ (j + 1) : Nat) : Int) := by
      rw [Nat.pow_succ]
      unfold wrap64; omega
    have hp : 1 ≤ 2 ^ j := Nat.one_le_two_pow
    have hsu : 2 ^ (j + 1) = 2 * 2 ^ j := by rw [Nat.pow_succ]; omega
    by_cases hlt : 2 ^ (j + 1) < h.length
    · refine Ev.step (fun k => ?_) (ih (d - 1) (by omega) (j + 1) hlt (by omega))
      simp only [sawyerlaw15_HashSplits.l0]
      rw [hw, if_pos (by omega)]
    · have hc : Hs.cut h.length = 2 ^ j := Hs.cut_eq _ _ h2 hj (by omega)
      have p0 : (0 : Int) ≤ ((2 ^ j : Nat) : Int) := by omega
      have p1 : ((2 ^ j : Nat) : Int) ≤ (h.length : Int) := by omega
      have hnlt : ¬ ((2 ^ (j + 1) : Nat) : Int) < (h.length : Int) := by omega
      have er := root_ev h.length h rfl (by omega) hs
      have e1 := root_ev (h.take (2 ^ j)).length (h.take (2 ^ j)) rfl (by simp; omega) (smalls_take hs _)
      have e2 := root_ev (h.drop (2 ^ j)).length (h.drop (2 ^ j)) rfl (by simp; omega) (smalls_drop hs _)
      have hN := node_small _ _ (small_root _ (smalls_take hs (2 ^ j))) (small_root _ (smalls_drop hs (2 ^ j)))
      refine Ev.step (f := fun k => (hash_Root.f k h).bind fun t556 => (hash_Root.f k (h.take (2 ^ j))).bind fun t561 => (hash_Root.f k (h.drop (2 ^ j))).bind fun t566 => (hash_Node.f t561 t566).bind fun t567 => some (t556.toList == t567.toList)) (fun k => ?_) (Ev.bind er (Ev.bind e1 (Ev.bind e2 ?_)))
      · simp only [sawyerlaw15_HashSplits.l0, hw, if_neg hnlt, if_true, if_pos p0, if_pos p1, Int.toNat_natCast]
      · simp only [hN, Option.bind_some]
        rw [Hs.root_many h h2, hc, beq_self_eq_true]
        exact Ev.now _
theorem HashSplits (l : List (List Int)) (y1 : l.length * 24 ≤ 140737488351232) (y2 : ∀ r ∈ l, r.length ≤ 140737488351232) (hb : ∀ r ∈ l, ∀ x ∈ r, 0 ≤ x ∧ x < 256) : ∃ k, sawyerlaw15_HashSplits.f k l = some true := by
  refine Ev.rounds ?_
  refine Ev.congr (fun k => rfl) (Ev.bind awake_ev (Ev.bind (leaves_ev l y2 hb) ?_))
  have hlen := leaves_length l
  have hsz := leaves_sized l
  generalize leavesOf l = h at hlen hsz ⊢
  have hs := smalls_32 hsz
  by_cases h2 : (h.length : Int) < 2
  · simp only [if_pos h2, if_true]
    by_cases h0 : (h.length : Int) = 0
    · simp only [if_pos h0]
      exact Ev.now _
    · have hp : (0 : Int) < (h.length : Int) := by omega
      simp only [if_neg h0, if_pos hp]
      refine Ev.bind (root_ev h.length h rfl (by omega) hs) ?_
      obtain ⟨x, rfl⟩ : ∃ x, h = [x] := List.length_eq_one_iff.1 (by omega)
      rw [Hs.root_one]
      simp only [show rdOf ByteArray.empty [x] 0 = x from rfl, beq_self_eq_true]
      exact Ev.now _
  · simp only [if_neg h2]
    exact splits_from h hsz (by omega) (by omega) h.length 0 (by simp; omega) (by omega)
end Go.Proofs.Ytkbbdbnjplcjdaa.Pure
end
