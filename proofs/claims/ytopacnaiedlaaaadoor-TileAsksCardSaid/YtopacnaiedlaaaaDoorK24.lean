-- JOINED BY A PROGRAM OF THIS PLACE (wip/tools/pack.py) out of: Hs
import Derived.Laws.MathBits
import Derived.Test.YtopacnaiedlaaaaDoorK2
import Derived.Test.YtopacnaiedlaaaaDoorK3
section
/-
  Trees over leaves, as plain functions on lists: roots, paths, proofs, and what they are good for.
-/
namespace Go.Proofs.YtopacnaiedlaaaaDoor.Hs
open Go.RowKit Go.Proofs.YtopacnaiedlaaaaDoor Go.Proofs.YtopacnaiedlaaaaDoorW.PrintWords
set_option linter.unusedVariables false
set_option linter.unusedSimpArgs false
def joined (l r : ByteArray) : List Int := 1 :: bytesOf (l ++ r)
def node (l r : ByteArray) : ByteArray := Sha.sum (joined l r)
def cut (n : Nat) : Nat := 2 ^ (bitLen (n - 1) - 1)
theorem cut_pos (n : Nat) : 1 ≤ cut n := Nat.one_le_two_pow
theorem cut_lt (n : Nat) (h : 2 ≤ n) : cut n < n := by
  have := (bitLen_spec (n - 1)).2 (by omega)
  unfold cut
  omega
theorem cut_two (n : Nat) (h : 2 ≤ n) : n ≤ 2 * cut n := by
  have h1 := (bitLen_spec (n - 1)).1
  have h2 : 1 ≤ bitLen (n - 1) := by
    unfold bitLen
    rw [if_neg (by omega)]
    omega
  unfold cut
  have : 2 ^ bitLen (n - 1) = 2 * 2 ^ (bitLen (n - 1) - 1) := by
    conv => lhs; rw [show bitLen (n - 1) = (bitLen (n - 1) - 1) + 1 by omega]
    rw [Nat.pow_succ]; omega
  omega
/-- what is summed of a leaf, node by node; the hash in the end -/
def step (b : Bool) (x p : ByteArray) : List Int := if b = true then joined x p else joined p x
/-! ### A beginning's proof -/
def next : List ByteArray → ByteArray × List ByteArray × Bool
  | [] => (ByteArray.empty, [], true)
  | s :: r => (s, r, false)
end Go.Proofs.YtopacnaiedlaaaaDoor.Hs
end
