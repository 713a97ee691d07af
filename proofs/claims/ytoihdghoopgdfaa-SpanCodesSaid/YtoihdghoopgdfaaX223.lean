-- JOINED BY A PROGRAM OF THIS PLACE (wip/tools/pack.py) out of: HsSmall
import Derived.Test.YtoihdghoopgdfaaX25
import Derived.Test.YtoihdghoopgdfaaX214
import Derived.Test.YtoihdghoopgdfaaX215
import Derived.Test.YtoihdghoopgdfaaX218
import Derived.Test.YtoihdghoopgdfaaX219
import Derived.Test.YtoihdghoopgdfaaX220
section
/-
  hash.Node, hash.Leaf, hash.cut, as the plain text Hs has them.
-/
namespace Go.Proofs.Ytoihdghoopgdfaa.F
open Go.RowKit Go.Proofs.Ytoihdghoopgdfaa Go.Proofs.YtoihdghoopgdfaaW.PrintWords Go.Proofs.YtoihdghoopgdfaaW.PrintLast Go.Proofs.YtoihdghoopgdfaaW.PrintMore
set_option linter.unusedVariables false
set_option linter.unusedSimpArgs false
theorem ok_of (l : List Int) (h1 : ∀ x ∈ l, 0 ≤ x ∧ x < 256) (h2 : l.length ≤ 140737488355000) : Sha.ok l = true := by
  simp only [Sha.ok, Bool.and_eq_true, List.all_eq_true, decide_eq_true_eq]
  exact ⟨h1, h2⟩
theorem sum_ok (l : List Int) (h1 : ∀ x ∈ l, 0 ≤ x ∧ x < 256) (h2 : l.length ≤ 140737488355000) : sha_Sum.f l = some (Sha.sum l) := if_pos (ok_of l h1 h2)
theorem joined_range (a b : ByteArray) : ∀ x ∈ Hs.joined a b, 0 ≤ x ∧ x < 256 := by
  intro x hx
  rcases List.mem_cons.1 hx with rfl | hx
  · omega
  · exact bytesOf_range _ x hx
theorem joined_length (a b : ByteArray) : (Hs.joined a b).length = a.size + b.size + 1 := by
  show (bytesOf (a ++ b)).length + 1 = _
  rw [bytesOf_length, ByteArray.size_append]
theorem joined_some (a b : ByteArray) (h : a.size + b.size ≤ 140737488354000) : hash_joined.f a b = some (Hs.joined a b) := by
  unfold hash_joined.f
  rw [Option.bind_some, if_pos (by omega), if_pos (by rw [ByteArray.size_append]; simp; omega)]
  rfl
theorem node_some (a b : ByteArray) (h : a.size + b.size ≤ 140737488354000) : hash_Node.f a b = some (Hs.node a b) := by
  unfold hash_Node.f
  rw [joined_some a b h, Option.bind_some, sum_ok _ (joined_range a b) (by rw [joined_length]; omega)]
  rfl
theorem shl_one (e : Nat) (he : e ≤ 62) : shl .i64 1 (e : Int) = ((2 ^ e : Nat) : Int) := by
  have h : ∀ j : Fin 63, shl .i64 1 ((j.val : Nat) : Int) = ((2 ^ j.val : Nat) : Int) := by decide +kernel
  exact h ⟨e, by omega⟩
theorem cut_some (n : Nat) (h : 2 ≤ n) (hn : n ≤ 2305843009213693952) : hash_cut.f (n : Int) = some (Hs.cut n : Int) := by
  have hw : IntKind.u64.wrap (wrap64 ((n : Int) - 1)) = ((n - 1 : Nat) : Int) := by
    rw [show wrap64 ((n : Int) - 1) = ((n - 1 : Nat) : Int) by unfold wrap64; omega]
    simp [IntKind.wrap, IntKind.bits, IntKind.signed]
    omega
  unfold hash_cut.f bits_Len.f
  rw [hw, if_pos (by omega), Option.bind_some, Int.toNat_natCast]
  have h1 : 1 ≤ bitLen (n - 1) := by
    unfold bitLen
    rw [if_neg (by omega)]
    omega
  have h2 : bitLen (n - 1) ≤ 62 := by
    unfold bitLen
    split
    · omega
    · have := (Nat.log2_lt (show n - 1 ≠ 0 by omega)).2 (show n - 1 < 2 ^ 62 by omega)
      omega
  have h3 : wrap64 ((bitLen (n - 1) : Int) - 1) = ((bitLen (n - 1) - 1 : Nat) : Int) := by
    unfold wrap64
    omega
  rw [h3, if_pos (by omega), shl_one _ (by omega)]
  rfl
end Go.Proofs.Ytoihdghoopgdfaa.F
end
