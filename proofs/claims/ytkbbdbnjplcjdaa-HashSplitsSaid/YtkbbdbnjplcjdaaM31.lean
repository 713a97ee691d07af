-- JOINED BY A PROGRAM OF THIS PLACE (wip/tools/pack.py) out of: HsLeaves
import Derived.Test.YtkbbdbnjplcjdaaM6
import Derived.Test.YtkbbdbnjplcjdaaM12
import Derived.Test.YtkbbdbnjplcjdaaM20
section
/-
  The leaves that the statements of this chapter take of what they are given; a place among them.
-/
namespace Go.Proofs.Ytkbbdbnjplcjdaa.F
open Go.RowKit Go.Proofs.Ytkbbdbnjplcjdaa Go.Proofs.YtkbbdbnjplcjdaaW.PrintWords Go.Proofs.YtkbbdbnjplcjdaaW.PrintLast Go.Proofs.YtkbbdbnjplcjdaaW.PrintMore
set_option linter.unusedVariables false
set_option linter.unusedSimpArgs false
theorem and65535 (n : Int) : Go.bits .and .i64 n 65535 = n % 65536 := by
  have h127 : (BitVec.ofInt 64 65535).toNat = 2 ^ 16 - 1 := by decide
  have key : (BitVec.ofInt 64 n &&& BitVec.ofInt 64 65535).toNat = (n % ((2 ^ 64 : Nat) : Int)).toNat % 2 ^ 16 := by
    rw [BitVec.toNat_and, BitVec.toNat_ofInt, h127, Nat.and_two_pow_sub_one_eq_mod]
  show IntKind.i64.wrap ((BitVec.ofInt 64 n &&& BitVec.ofInt 64 65535).toNat : Nat) = n % 65536
  rw [key, IntKind.wrap_i64]
  omega
theorem picked (a : Int) (n : Nat) (h : 0 < n) : ∃ i : Nat, Int.tmod (Go.bits .and .i64 a 65535) (n : Int) = (i : Int) ∧ i < n := by
  rw [and65535]
  have h1 := Int.tmod_nonneg (n : Int) (Int.emod_nonneg a (by decide : (65536 : Int) ≠ 0))
  have h2 := Int.tmod_lt_of_pos (a % 65536) (b := (n : Int)) (by omega)
  exact ⟨(Int.tmod (a % 65536) (n : Int)).toNat, by omega, by omega⟩
/-- the hashes of the first seventy leaves -/
def leavesOf (l : List (List Int)) : List ByteArray := (l.take 70).map Hs.leaf
theorem leaves_length (l : List (List Int)) : (leavesOf l).length = min 70 l.length := by simp [leavesOf]
theorem leaves_sized (l : List (List Int)) : sized (leavesOf l) := by
  intro x hx
  obtain ⟨b, _, rfl⟩ := List.mem_map.1 hx
  exact Hs.leaf_size b
theorem leaves_at (l : List (List Int)) (i : Nat) (h : i < (leavesOf l).length) : (leavesOf l).getD i ByteArray.empty = Hs.leaf (l.getD i []) := by
  rw [leaves_length] at h
  have h1 : i < l.length := by omega
  have h2 : i < (l.take 70).length := by simp; omega
  unfold leavesOf
  rw [List.getD_eq_getElem?_getD, List.getElem?_map, List.getElem?_eq_getElem h2, List.getD_eq_getElem?_getD, List.getElem?_eq_getElem h1]
  simp
theorem byte_rows (l : List (List Int)) (hb : ∀ r ∈ l, ∀ x ∈ r, 0 ≤ x ∧ x < 256) (i : Nat) : ∀ x ∈ l.getD i [], 0 ≤ x ∧ x < 256 := by
  intro x hx
  rw [List.getD_eq_getElem?_getD] at hx
  by_cases h : i < l.length
  · rw [List.getElem?_eq_getElem h] at hx
    exact hb _ (List.getElem_mem h) x hx
  · rw [List.getElem?_eq_none (by omega)] at hx
    simp at hx
theorem small_rows (l : List (List Int)) (hs : ∀ r ∈ l, r.length ≤ 140737488351232) (i : Nat) : (l.getD i []).length ≤ 140737488354000 := by
  rw [List.getD_eq_getElem?_getD]
  by_cases h : i < l.length
  · rw [List.getElem?_eq_getElem h]
    have := hs _ (List.getElem_mem h)
    simp only [Option.getD_some]
    omega
  · rw [List.getElem?_eq_none (by omega)]
    simp
theorem leaves_from (l : List (List Int)) (hs : ∀ r ∈ l, r.length ≤ 140737488351232) (hb : ∀ r ∈ l, ∀ x ∈ r, 0 ≤ x ∧ x < 256) (d : Nat) : ∀ i, i + d = min 70 l.length → Ev (fun k => sawyerlaw15_leaves.l0 k l ((l.take i).map Hs.leaf) (i : Int)) (leavesOf l) := by
  induction d with
  | zero =>
    intro i hi
    refine Ev.step (f := fun _ => some _) (fun k => ?_) (Ev.now _)
    simp only [sawyerlaw15_leaves.l0]
    have ht : l.take i = l.take 70 := by
      rcases Nat.lt_or_ge 70 l.length with h | h
      · rw [show i = 70 by omega]
      · rw [List.take_of_length_le (by omega), List.take_of_length_le (by omega)]
    by_cases h : (i : Int) < (l.length : Int)
    · rw [if_pos h, if_neg (by omega), ht]; rfl
    · rw [if_neg h, ht]; rfl
  | succ d ih =>
    intro i hi
    have hlt : i < l.length := by omega
    refine Ev.step (f := fun k => (sawyerref15_Leaf.f k (l.getD i [])).bind fun t => if ((l.take i).map Hs.leaf).length < 8796093022208 then sawyerlaw15_leaves.l0 k l ((l.take i).map Hs.leaf ++ [t]) ((i + 1 : Nat) : Int) else none) (fun k => ?_)
      (Ev.bind (rleaf_some _ (byte_rows l hb i) (small_rows l hs i)) (Ev.congr (fun k => ?_) (ih (i + 1) (by omega))))
    · simp only [sawyerlaw15_leaves.l0]
      rw [if_pos (by omega), if_pos (by omega), if_pos (by omega), show wrap64 ((i : Int) + 1) = ((i + 1 : Nat) : Int) by unfold wrap64; omega]
      rfl
    · rw [if_pos (by simp; omega), List.take_succ_eq_append_getElem hlt, List.map_append, List.getD_eq_getElem?_getD, List.getElem?_eq_getElem hlt]
      rfl
theorem leaves_ev (l : List (List Int)) (hs : ∀ r ∈ l, r.length ≤ 140737488351232) (hb : ∀ r ∈ l, ∀ x ∈ r, 0 ≤ x ∧ x < 256) : Ev (fun k => sawyerlaw15_leaves.f k l) (leavesOf l) :=
  leaves_from l hs hb (min 70 l.length) 0 (by omega)
theorem pathR_in (l : List ByteArray) (i : Nat) (h : i < l.length) : pathR l (i : Int) = (Hs.path l i, 0) := if_pos ⟨by omega, by omega⟩
theorem pathR_out (l : List ByteArray) : pathR l (l.length : Int) = ([], 8) := if_neg (by omega)
theorem proofR_in (l : List ByteArray) (m : Nat) (h1 : 1 ≤ m) (h2 : m ≤ l.length) : proofR l (m : Int) = (Hs.sub m l true, 0) := if_pos ⟨by omega, by omega⟩
theorem checkProof_none (n : Int) (p : List ByteArray) (a b : ByteArray) : Hs.checkProof 0 n p a b = 8 := if_pos (Or.inl (by omega))
end Go.Proofs.Ytkbbdbnjplcjdaa.F
end
