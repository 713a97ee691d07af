-- JOINED BY A PROGRAM OF THIS PLACE (wip/tools/pack.py) out of: Hs
import Derived.Laws.MathBits
import Derived.Test.YtopacnaiedlaaaaDoorL2
import Derived.Test.YtopacnaiedlaaaaDoorL6
section
/-
  Trees over leaves, as plain functions on lists: roots, paths, proofs, and what they are good for.
-/
namespace Go.Proofs.YtopacnaiedlaaaaDoor.Hs
open Go.RowKit Go.Proofs.YtopacnaiedlaaaaDoor Go.Proofs.YtopacnaiedlaaaaDoorW.PrintWords
set_option linter.unusedVariables false
set_option linter.unusedSimpArgs false
def joined (l r : ByteArray) : List Int := 1 :: bytesOf (l ++ r)
def node (l r : ByteArray) : ByteArray := Sha.sum (joined l r)
def leaf (b : List Int) : ByteArray := Sha.sum (0 :: b)
def cut (n : Nat) : Nat := 2 ^ (bitLen (n - 1) - 1)
theorem node_size (l r : ByteArray) : (node l r).size = 32 := Sha.sum_size _
theorem leaf_size (b : List Int) : (leaf b).size = 32 := Sha.sum_size _
theorem cut_pos (n : Nat) : 1 ≤ cut n := Nat.one_le_two_pow
theorem cut_lt (n : Nat) (h : 2 ≤ n) : cut n < n := by
  have := (bitLen_spec (n - 1)).2 (by omega)
  unfold cut
  omega
theorem cut_two (n : Nat) (h : 2 ≤ n) : n ≤ 2 * cut n := by
  have h1 := (bitLen_spec (n - 1)).1
  have h2 : 1 ≤ bitLen (n - 1) := by
    unfold bitLen
    rw [if_neg (by omega)]
    omega
  unfold cut
  have : 2 ^ bitLen (n - 1) = 2 * 2 ^ (bitLen (n - 1) - 1) := by
    conv => lhs; rw [show bitLen (n - 1) = (bitLen (n - 1) - 1) + 1 by omega]
    rw [Nat.pow_succ]; omega
  omega
/-- the only power of two that is less than n, and twice of which is not -/
theorem cut_eq (n e : Nat) (h : 2 ≤ n) (h1 : 2 ^ e < n) (h2 : n ≤ 2 * 2 ^ e) : cut n = 2 ^ e := by
  have a := cut_lt n h
  have b := cut_two n h
  unfold cut at a b ⊢
  generalize bitLen (n - 1) - 1 = m at a b
  rcases Nat.lt_trichotomy m e with hm | hm | hm
  · have : 2 ^ (m + 1) ≤ 2 ^ e := Nat.pow_le_pow_right (by omega) (by omega)
    rw [Nat.pow_succ] at this
    omega
  · rw [hm]
  · have : 2 ^ (e + 1) ≤ 2 ^ m := Nat.pow_le_pow_right (by omega) (by omega)
    rw [Nat.pow_succ] at this
    omega
theorem take_len {α : Type} (l : List α) (h : 2 ≤ l.length) : (l.take (cut l.length)).length = cut l.length := by
  have := cut_lt _ h
  rw [List.length_take]; omega
def root (l : List ByteArray) : ByteArray :=
  if h : 2 ≤ l.length then node (root (l.take (cut l.length))) (root (l.drop (cut l.length))) else
    match l with
    | [] => Sha.sum []
    | x :: _ => x
termination_by l.length
decreasing_by
  · have := cut_lt _ h; rw [List.length_take]; omega
  · have := cut_pos l.length; rw [List.length_drop]; omega
theorem root_many (l : List ByteArray) (h : 2 ≤ l.length) : root l = node (root (l.take (cut l.length))) (root (l.drop (cut l.length))) := by
  rw [root, dif_pos h]
theorem root_nil : root [] = Sha.sum [] := by
  rw [root, dif_neg (by simp)]
theorem root_one (x : ByteArray) : root [x] = x := by
  rw [root, dif_neg (by simp)]
def path (l : List ByteArray) (i : Nat) : List ByteArray :=
  if h : 2 ≤ l.length then
    if i < cut l.length then path (l.take (cut l.length)) i ++ [root (l.drop (cut l.length))]
    else path (l.drop (cut l.length)) (i - cut l.length) ++ [root (l.take (cut l.length))]
  else []
termination_by l.length
decreasing_by
  · have := cut_lt _ h; rw [List.length_take]; omega
  · have := cut_pos l.length; rw [List.length_drop]; omega
theorem path_left (l : List ByteArray) (i : Nat) (h : 2 ≤ l.length) (hi : i < cut l.length) : path l i = path (l.take (cut l.length)) i ++ [root (l.drop (cut l.length))] := by
  rw [path, dif_pos h, if_pos hi]
theorem path_right (l : List ByteArray) (i : Nat) (h : 2 ≤ l.length) (hi : cut l.length ≤ i) : path l i = path (l.drop (cut l.length)) (i - cut l.length) ++ [root (l.take (cut l.length))] := by
  rw [path, dif_pos h, if_neg (by omega)]
theorem path_few (l : List ByteArray) (i : Nat) (h : l.length < 2) : path l i = [] := by
  rw [path, dif_neg (by omega)]
def sub (m : Nat) (l : List ByteArray) (own : Bool) : List ByteArray :=
  if m = l.length then (if own = true then [] else [root l]) else
  if h : 2 ≤ l.length then
    if m ≤ cut l.length then sub m (l.take (cut l.length)) own ++ [root (l.drop (cut l.length))]
    else sub (m - cut l.length) (l.drop (cut l.length)) false ++ [root (l.take (cut l.length))]
  else []
termination_by l.length
decreasing_by
  · have := cut_lt _ h; rw [List.length_take]; omega
  · have := cut_pos l.length; rw [List.length_drop]; omega
theorem sub_all (l : List ByteArray) (own : Bool) : sub l.length l own = if own = true then [] else [root l] := by
  rw [sub, if_pos rfl]
theorem sub_left (m : Nat) (l : List ByteArray) (own : Bool) (hm : m ≠ l.length) (h : 2 ≤ l.length) (hi : m ≤ cut l.length) : sub m l own = sub m (l.take (cut l.length)) own ++ [root (l.drop (cut l.length))] := by
  rw [sub, if_neg hm, dif_pos h, if_pos hi]
theorem sub_right (m : Nat) (l : List ByteArray) (own : Bool) (hm : m ≠ l.length) (h : 2 ≤ l.length) (hi : cut l.length < m) : sub m l own = sub (m - cut l.length) (l.drop (cut l.length)) false ++ [root (l.take (cut l.length))] := by
  rw [sub, if_neg hm, dif_pos h, if_neg (by omega)]
def sides (i n : Nat) : List Bool :=
  if h : 2 ≤ n then
    if i < cut n then sides i (cut n) ++ [true] else sides (i - cut n) (n - cut n) ++ [false]
  else []
termination_by n
decreasing_by
  · exact cut_lt _ h
  · have := cut_pos n; omega
theorem sides_left (i n : Nat) (h : 2 ≤ n) (hi : i < cut n) : sides i n = sides i (cut n) ++ [true] := by
  rw [sides, dif_pos h, if_pos hi]
theorem sides_right (i n : Nat) (h : 2 ≤ n) (hi : cut n ≤ i) : sides i n = sides (i - cut n) (n - cut n) ++ [false] := by
  rw [sides, dif_pos h, if_neg (by omega)]
theorem sides_few (i n : Nat) (h : n < 2) : sides i n = [] := by
  rw [sides, dif_neg (by omega)]
/-- what is summed of a leaf, node by node; the hash in the end -/
def step (b : Bool) (x p : ByteArray) : List Int := if b = true then joined x p else joined p x
/-! ### A beginning's proof -/
def next : List ByteArray → ByteArray × List ByteArray × Bool
  | [] => (ByteArray.empty, [], true)
  | s :: r => (s, r, false)
end Go.Proofs.YtopacnaiedlaaaaDoor.Hs
end
