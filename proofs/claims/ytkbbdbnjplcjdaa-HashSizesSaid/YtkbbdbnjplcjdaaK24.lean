-- JOINED BY A PROGRAM OF THIS PLACE (wip/tools/pack.py) out of: HsLeaves PureHashSizes
import Derived.Test.YtkbbdbnjplcjdaaK9
import Derived.Test.YtkbbdbnjplcjdaaK11
import Derived.Test.YtkbbdbnjplcjdaaK18
import Derived.Test.YtkbbdbnjplcjdaaK19
import Derived.Test.YtkbbdbnjplcjdaaK20
section
/-
  The leaves that the statements of this chapter take of what they are given; a place among them.
-/
namespace Go.Proofs.Ytkbbdbnjplcjdaa.F
open Go.RowKit Go.Proofs.Ytkbbdbnjplcjdaa Go.Proofs.YtkbbdbnjplcjdaaW.PrintWords Go.Proofs.YtkbbdbnjplcjdaaW.PrintLast Go.Proofs.YtkbbdbnjplcjdaaW.PrintMore
set_option linter.unusedVariables false
set_option linter.unusedSimpArgs false
theorem and65535 (n : Int) : Go.bits .and .i64 n 65535 = n % 65536 := by
  have h127 : (BitVec.ofInt 64 65535).toNat = 2 ^ 16 - 1 := by decide
  have key : (BitVec.ofInt 64 n &&& BitVec.ofInt 64 65535).toNat = (n % ((2 ^ 64 : Nat) : Int)).toNat % 2 ^ 16 := by
    rw [BitVec.toNat_and, BitVec.toNat_ofInt, h127, Nat.and_two_pow_sub_one_eq_mod]
  show IntKind.i64.wrap ((BitVec.ofInt 64 n &&& BitVec.ofInt 64 65535).toNat : Nat) = n % 65536
  rw [key, IntKind.wrap_i64]
  omega
theorem picked (a : Int) (n : Nat) (h : 0 < n) : ∃ i : Nat, Int.tmod (Go.bits .and .i64 a 65535) (n : Int) = (i : Int) ∧ i < n := by
  rw [and65535]
  have h1 := Int.tmod_nonneg (n : Int) (Int.emod_nonneg a (by decide : (65536 : Int) ≠ 0))
  have h2 := Int.tmod_lt_of_pos (a % 65536) (b := (n : Int)) (by omega)
  exact ⟨(Int.tmod (a % 65536) (n : Int)).toNat, by omega, by omega⟩
/-- the hashes of the first seventy leaves -/
def leavesOf (l : List (List Int)) : List ByteArray := (l.take 70).map Hs.leaf
theorem leaves_length (l : List (List Int)) : (leavesOf l).length = min 70 l.length := by simp [leavesOf]
theorem leaves_sized (l : List (List Int)) : sized (leavesOf l) := by
  intro x hx
  obtain ⟨b, _, rfl⟩ := List.mem_map.1 hx
  exact Hs.leaf_size b
theorem byte_rows (l : List (List Int)) (hb : ∀ r ∈ l, ∀ x ∈ r, 0 ≤ x ∧ x < 256) (i : Nat) : ∀ x ∈ l.getD i [], 0 ≤ x ∧ x < 256 := by
  intro x hx
  rw [List.getD_eq_getElem?_getD] at hx
  by_cases h : i < l.length
  · rw [List.getElem?_eq_getElem h] at hx
    exact hb _ (List.getElem_mem h) x hx
  · rw [List.getElem?_eq_none (by omega)] at hx
    simp at hx
theorem small_rows (l : List (List Int)) (hs : ∀ r ∈ l, r.length ≤ 140737488351232) (i : Nat) : (l.getD i []).length ≤ 140737488354000 := by
  rw [List.getD_eq_getElem?_getD]
  by_cases h : i < l.length
  · rw [List.getElem?_eq_getElem h]
    have := hs _ (List.getElem_mem h)
    simp only [Option.getD_some]
    omega
  · rw [List.getElem?_eq_none (by omega)]
    simp
theorem leaves_from (l : List (List Int)) (hs : ∀ r ∈ l, r.length ≤ 140737488351232) (hb : ∀ r ∈ l, ∀ x ∈ r, 0 ≤ x ∧ x < 256) (d : Nat) : ∀ i, i + d = min 70 l.length → Ev (fun k => sawyerlaw15_leaves.l0 k l ((l.take i).map Hs.leaf) (i : Int)) (leavesOf l) := by
  induction d with
  | zero =>
    intro i hi
    refine Ev.step (f := fun _ => some _) (fun k => ?_) (Ev.now _)
    simp only [sawyerlaw15_leaves.l0]
    have ht : l.take i = l.take 70 := by
      rcases Nat.lt_or_ge 70 l.length with h | h
      · rw [show i = 70 by omega]
      · rw [List.take_of_length_le (by omega), List.take_of_length_le (by omega)]
    by_cases h : (i : Int) < (l.length : Int)
    · rw [if_pos h, if_neg (by omega), ht]; rfl
    · rw [if_neg h, ht]; rfl
  | succ d ih =>
    intro i hi
    have hlt : i < l.length := by omega
    refine Ev.step (f := fun k => (sawyerref15_Leaf.f k (l.getD i [])).bind fun t => if ((l.take i).map Hs.leaf).length < 8796093022208 then sawyerlaw15_leaves.l0 k l ((l.take i).map Hs.leaf ++ [t]) ((i + 1 : Nat) : Int) else none) (fun k => ?_)
      (Ev.bind (rleaf_some _ (byte_rows l hb i) (small_rows l hs i)) (Ev.congr (fun k => ?_) (ih (i + 1) (by omega))))
    · simp only [sawyerlaw15_leaves.l0]
      rw [if_pos (by omega), if_pos (by omega), if_pos (by omega), show wrap64 ((i : Int) + 1) = ((i + 1 : Nat) : Int) by unfold wrap64; omega]
      rfl
    · rw [if_pos (by simp; omega), List.take_succ_eq_append_getElem hlt, List.map_append, List.getD_eq_getElem?_getD, List.getElem?_eq_getElem hlt]
      rfl
theorem leaves_ev (l : List (List Int)) (hs : ∀ r ∈ l, r.length ≤ 140737488351232) (hb : ∀ r ∈ l, ∀ x ∈ r, 0 ≤ x ∧ x < 256) : Ev (fun k => sawyerlaw15_leaves.f k l) (leavesOf l) :=
  leaves_from l hs hb (min 70 l.length) 0 (by omega)
theorem pathR_in (l : List ByteArray) (i : Nat) (h : i < l.length) : pathR l (i : Int) = (Hs.path l i, 0) := if_pos ⟨by omega, by omega⟩
theorem proofR_in (l : List ByteArray) (m : Nat) (h1 : 1 ≤ m) (h2 : m ≤ l.length) : proofR l (m : Int) = (Hs.sub m l true, 0) := if_pos ⟨by omega, by omega⟩
end Go.Proofs.Ytkbbdbnjplcjdaa.F
end
section
/-
  The plain statement of HashSizes: how long paths and proofs are.
-/
namespace Go.Proofs.Ytkbbdbnjplcjdaa.Pure
open Go.RowKit Go.Proofs.Ytkbbdbnjplcjdaa Go.Proofs.Ytkbbdbnjplcjdaa.F Go.Proofs.YtkbbdbnjplcjdaaW.PrintWords Go.Proofs.YtkbbdbnjplcjdaaW.PrintLast Go.Proofs.YtkbbdbnjplcjdaaW.PrintMore
set_option linter.unusedVariables false
set_option linter.unusedSimpArgs false
theorem sides_perfect (e : Nat) : ∀ i, i < 2 ^ e → (Hs.sides i (2 ^ e)).length = e := by
  induction e with
  | zero => intro i hi; rw [Hs.sides_few _ _ (by simp)]; rfl
  | succ e ih =>
    intro i hi
    have hp : 1 ≤ 2 ^ e := Nat.one_le_two_pow
    have hsu : 2 ^ (e + 1) = 2 * 2 ^ e := by rw [Nat.pow_succ]; omega
    have hc : Hs.cut (2 ^ (e + 1)) = 2 ^ e := Hs.cut_eq _ _ (by omega) (by omega) (by omega)
    by_cases h : i < 2 ^ e
    · rw [Hs.sides_left i _ (by omega) (by rw [hc]; exact h), hc, List.length_append, ih i h]; rfl
    · rw [Hs.sides_right i _ (by omega) (by rw [hc]; omega), hc, List.length_append, show 2 ^ (e + 1) - 2 ^ e = 2 ^ e by omega, ih (i - 2 ^ e) (by omega)]; rfl
theorem shl_one (e : Nat) (h : e ≤ 7) : shl .i64 1 (e : Int) = ((2 ^ e : Nat) : Int) := by
  have : e = 0 ∨ e = 1 ∨ e = 2 ∨ e = 3 ∨ e = 4 ∨ e = 5 ∨ e = 6 ∨ e = 7 := by omega
  rcases this with rfl | rfl | rfl | rfl | rfl | rfl | rfl | rfl <;> decide
theorem sizes_from (h : List ByteArray) (hsz : sized h) (h1 : 1 ≤ h.length) (hn : h.length ≤ 70) (a b : Int) (d : Nat) : ∀ e : Nat, e + d = 7 → Ev (fun k => sawyerlaw15_HashSizes.l0 k a b true h (e : Int) ((2 ^ e : Nat) : Int)) true := by
  have hs := smalls_32 hsz
  have stop : ∀ e : Nat, e ≤ 7 → h.length ≤ 2 ^ e → Ev (fun k => sawyerlaw15_HashSizes.l0 k a b true h (e : Int) ((2 ^ e : Nat) : Int)) true := by
    intro e he hle
    obtain ⟨i, hi, hin⟩ := picked a h.length (by omega)
    obtain ⟨m, hm, hmn⟩ := picked b h.length (by omega)
    have hw : wrap64 (1 + (m : Int)) = ((m + 1 : Nat) : Int) := by unfold wrap64; omega
    have hw2 : wrap64 ((e : Int) + 1) = ((e + 1 : Nat) : Int) := by unfold wrap64; omega
    have q0 : ¬ ((2 ^ e : Nat) : Int) < (h.length : Int) := by omega
    have q1 : ¬ (h.length : Int) = 0 := by omega
    have q2 : (0 : Int) ≤ (e : Int) := by omega
    have e1 := path_ev h (i : Int) (by omega) hs
    rw [pathR_in h i hin] at e1
    have e2 := proof_ev h ((m + 1 : Nat) : Int) (by omega) hs
    rw [proofR_in h (m + 1) (by omega) (by omega)] at e2
    have e3 := proof_ev h (h.length : Int) (by omega) hs
    rw [proofR_in h h.length (by omega) (by omega), Hs.sub_all, if_pos rfl] at e3
    have l1 : ((Hs.path h i).length : Int) ≤ (e : Int) := by
      have := sides_le h.length i e hle
      rw [Hs.path_length]
      omega
    have l2 : ((Hs.sub (m + 1) h true).length : Int) ≤ ((e + 1 : Nat) : Int) := by
      have := sub_le h.length e (m + 1) h true rfl hle
      omega
    refine Ev.step (f := fun k => (hash_Path.f k h (i : Int)).bind fun bt572 => (hash_Proof.f k h ((m + 1 : Nat) : Int)).bind fun bt576 => (hash_Proof.f k h (h.length : Int)).bind fun bt580 => (if bt572.2 = 0 then (if bt576.2 = 0 then (if bt580.2 = 0 then (if (bt572.1.length : Int) ≤ (e : Int) then (if (bt576.1.length : Int) ≤ ((e + 1 : Nat) : Int) then (if (bt580.1.length : Int) = 0 then (if ((2 ^ e : Nat) : Int) = (h.length : Int) then (some ((bt572.1.length : Int) == (e : Int))) else (some true)) else (some false)) else (some false)) else (some false)) else (some false)) else (some false)) else (some false)))
      (fun k => ?_) (Ev.bind e1 (Ev.bind e2 (Ev.bind e3 ?_)))
    · simp only [sawyerlaw15_HashSizes.l0, hi, hm, hw, hw2, if_neg q0, if_neg q1, if_pos q2, if_true, shl_one e he]
    · simp only [if_true, if_pos l1, if_pos l2, List.length_nil]
      by_cases hp : ((2 ^ e : Nat) : Int) = (h.length : Int)
      · have hpl : ((Hs.path h i).length : Int) = (e : Int) := by
          rw [Hs.path_length, show h.length = 2 ^ e by omega, sides_perfect e i (by omega)]
        simp only [if_pos hp, hpl, beq_self_eq_true]
        exact Ev.now _
      · simp only [if_neg hp]
        exact Ev.now _
  induction d with
  | zero => intro e he; exact stop e (by omega) (by rw [show e = 7 by omega]; omega)
  | succ d ih =>
    intro e he
    by_cases hle : h.length ≤ 2 ^ e
    · exact stop e (by omega) hle
    · have hp : 1 ≤ 2 ^ e := Nat.one_le_two_pow
      refine Ev.step (fun k => ?_) (ih (e + 1) (by omega))
      simp only [sawyerlaw15_HashSizes.l0]
      rw [if_pos (by omega), show wrap64 ((e : Int) + 1) = ((e + 1 : Nat) : Int) by unfold wrap64; omega, show wrap64 (2 * ((2 ^ e : Nat) : Int)) = ((2 ^ (e + 1) : Nat) : Int) by rw [Nat.pow_succ]; unfold wrap64; omega]
theorem HashSizes (l : List (List Int)) (y1 : l.length * 24 ≤ 140737488351232) (y2 : ∀ r ∈ l, r.length ≤ 140737488351232) (hb : ∀ r ∈ l, ∀ x ∈ r, 0 ≤ x ∧ x < 256) (a : Int) (wa : (Lit.int .i64 a).wf = true) (b : Int) (wb : (Lit.int .i64 b).wf = true) : ∃ k, sawyerlaw15_HashSizes.f k l a b = some true := by
  refine Ev.rounds ?_
  refine Ev.congr (fun k => rfl) (Ev.bind awake_ev (Ev.bind (leaves_ev l y2 hb) ?_))
  have hlen := leaves_length l
  have hsz := leaves_sized l
  generalize leavesOf l = h at hlen hsz ⊢
  by_cases h0 : (h.length : Int) = 0
  · exact Ev.congr (fun k => if_pos h0) (Ev.now _)
  · exact Ev.congr (fun k => if_neg h0) (sizes_from h hsz (by omega) (by omega) a b 7 0 (by omega))
end Go.Proofs.Ytkbbdbnjplcjdaa.Pure
end
