-- JOINED BY A PROGRAM OF THIS PLACE (wip/tools/pack.py) out of: Hs
import Derived.Laws.MathBits
import Derived.Test.YtkbbdbnjplcjdaaC2
import Derived.Test.YtkbbdbnjplcjdaaC6
section
/-
  Trees over leaves, as plain functions on lists: roots, paths, proofs, and what they are good for.
-/
namespace Go.Proofs.Ytkbbdbnjplcjdaa.Hs
open Go.RowKit Go.Proofs.Ytkbbdbnjplcjdaa Go.Proofs.YtkbbdbnjplcjdaaW.PrintWords
set_option linter.unusedVariables false
set_option linter.unusedSimpArgs false
def joined (l r : ByteArray) : List Int := 1 :: bytesOf (l ++ r)
def node (l r : ByteArray) : ByteArray := Sha.sum (joined l r)
def leaf (b : List Int) : ByteArray := Sha.sum (0 :: b)
def cut (n : Nat) : Nat := 2 ^ (bitLen (n - 1) - 1)
theorem node_size (l r : ByteArray) : (node l r).size = 32 := Sha.sum_size _
theorem leaf_size (b : List Int) : (leaf b).size = 32 := Sha.sum_size _
theorem cut_pos (n : Nat) : 1 ≤ cut n := Nat.one_le_two_pow
theorem cut_lt (n : Nat) (h : 2 ≤ n) : cut n < n := by
  have := (bitLen_spec (n - 1)).2 (by omega)
  unfold cut
  omega
theorem cut_two (n : Nat) (h : 2 ≤ n) : n ≤ 2 * cut n := by
  have h1 := (bitLen_spec (n - 1)).1
  have h2 : 1 ≤ bitLen (n - 1) := by
    unfold bitLen
    rw [if_neg (by omega)]
    omega
  unfold cut
  have : 2 ^ bitLen (n - 1) = 2 * 2 ^ (bitLen (n - 1) - 1) := by
    conv => lhs; rw [show bitLen (n - 1) = (bitLen (n - 1) - 1) + 1 by omega]
    rw [Nat.pow_succ]; omega
  omega
/-- the only power of two that is less than n, and twice of which is not -/
theorem cut_eq (n e : Nat) (h : 2 ≤ n) (h1 : 2 ^ e < n) (h2 : n ≤ 2 * 2 ^ e) : cut n = 2 ^ e := by
  have a := cut_lt n h
  have b := cut_two n h
  unfold cut at a b ⊢
  generalize bitLen (n - 1) - 1 = m at a b
  rcases Nat.lt_trichotomy m e with hm | hm | hm
  · have : 2 ^ (m + 1) ≤ 2 ^ e := Nat.pow_le_pow_right (by omega) (by omega)
    rw [Nat.pow_succ] at this
    omega
  · rw [hm]
  · have : 2 ^ (e + 1) ≤ 2 ^ m := Nat.pow_le_pow_right (by omega) (by omega)
    rw [Nat.pow_succ] at this
    omega
theorem take_len {α : Type} (l : List α) (h : 2 ≤ l.length) : (l.take (cut l.length)).length = cut l.length := by
  have := cut_lt _ h
  rw [List.length_take]; omega
theorem drop_len {α : Type} (l : List α) : (l.drop (cut l.length)).length = l.length - cut l.length := List.length_drop
def root (l : List ByteArray) : ByteArray :=
  if h : 2 ≤ l.length then node (root (l.take (cut l.length))) (root (l.drop (cut l.length))) else
    match l with
    | [] => Sha.sum []
    | x :: _ => x
termination_by l.length
decreasing_by
  · have := cut_lt _ h; rw [List.length_take]; omega
  · have := cut_pos l.length; rw [List.length_drop]; omega
theorem root_many (l : List ByteArray) (h : 2 ≤ l.length) : root l = node (root (l.take (cut l.length))) (root (l.drop (cut l.length))) := by
  rw [root, dif_pos h]
theorem root_nil : root [] = Sha.sum [] := by
  rw [root, dif_neg (by simp)]
theorem root_one (x : ByteArray) : root [x] = x := by
  rw [root, dif_neg (by simp)]
def path (l : List ByteArray) (i : Nat) : List ByteArray :=
  if h : 2 ≤ l.length then
    if i < cut l.length then path (l.take (cut l.length)) i ++ [root (l.drop (cut l.length))]
    else path (l.drop (cut l.length)) (i - cut l.length) ++ [root (l.take (cut l.length))]
  else []
termination_by l.length
decreasing_by
  · have := cut_lt _ h; rw [List.length_take]; omega
  · have := cut_pos l.length; rw [List.length_drop]; omega
theorem path_left (l : List ByteArray) (i : Nat) (h : 2 ≤ l.length) (hi : i < cut l.length) : path l i = path (l.take (cut l.length)) i ++ [root (l.drop (cut l.length))] := by
  rw [path, dif_pos h, if_pos hi]
theorem path_right (l : List ByteArray) (i : Nat) (h : 2 ≤ l.length) (hi : cut l.length ≤ i) : path l i = path (l.drop (cut l.length)) (i - cut l.length) ++ [root (l.take (cut l.length))] := by
  rw [path, dif_pos h, if_neg (by omega)]
theorem path_few (l : List ByteArray) (i : Nat) (h : l.length < 2) : path l i = [] := by
  rw [path, dif_neg (by omega)]
def sub (m : Nat) (l : List ByteArray) (own : Bool) : List ByteArray :=
  if m = l.length then (if own = true then [] else [root l]) else
  if h : 2 ≤ l.length then
    if m ≤ cut l.length then sub m (l.take (cut l.length)) own ++ [root (l.drop (cut l.length))]
    else sub (m - cut l.length) (l.drop (cut l.length)) false ++ [root (l.take (cut l.length))]
  else []
termination_by l.length
decreasing_by
  · have := cut_lt _ h; rw [List.length_take]; omega
  · have := cut_pos l.length; rw [List.length_drop]; omega
theorem sub_all (l : List ByteArray) (own : Bool) : sub l.length l own = if own = true then [] else [root l] := by
  rw [sub, if_pos rfl]
theorem sub_left (m : Nat) (l : List ByteArray) (own : Bool) (hm : m ≠ l.length) (h : 2 ≤ l.length) (hi : m ≤ cut l.length) : sub m l own = sub m (l.take (cut l.length)) own ++ [root (l.drop (cut l.length))] := by
  rw [sub, if_neg hm, dif_pos h, if_pos hi]
theorem sub_right (m : Nat) (l : List ByteArray) (own : Bool) (hm : m ≠ l.length) (h : 2 ≤ l.length) (hi : cut l.length < m) : sub m l own = sub (m - cut l.length) (l.drop (cut l.length)) false ++ [root (l.take (cut l.length))] := by
  rw [sub, if_neg hm, dif_pos h, if_neg (by omega)]
def sides (i n : Nat) : List Bool :=
  if h : 2 ≤ n then
    if i < cut n then sides i (cut n) ++ [true] else sides (i - cut n) (n - cut n) ++ [false]
  else []
termination_by n
decreasing_by
  · exact cut_lt _ h
  · have := cut_pos n; omega
theorem sides_left (i n : Nat) (h : 2 ≤ n) (hi : i < cut n) : sides i n = sides i (cut n) ++ [true] := by
  rw [sides, dif_pos h, if_pos hi]
theorem sides_right (i n : Nat) (h : 2 ≤ n) (hi : cut n ≤ i) : sides i n = sides (i - cut n) (n - cut n) ++ [false] := by
  rw [sides, dif_pos h, if_neg (by omega)]
theorem sides_few (i n : Nat) (h : n < 2) : sides i n = [] := by
  rw [sides, dif_neg (by omega)]
theorem path_length (l : List ByteArray) (i : Nat) : (path l i).length = (sides i l.length).length := by
  generalize hn : l.length = n
  induction n using Nat.strongRecOn generalizing l i with
  | ind n ih =>
    by_cases h : 2 ≤ n
    · have h2 : 2 ≤ l.length := by omega
      by_cases hi : i < cut n
      · rw [path_left l i h2 (by rw [hn]; exact hi), sides_left i n h hi, List.length_append, List.length_append, hn, ih (cut n) (cut_lt _ h) (l.take (cut n)) i (by rw [← hn]; exact take_len l h2)]
        rfl
      · have := cut_pos n
        rw [path_right l i h2 (by rw [hn]; omega), sides_right i n h (by omega), List.length_append, List.length_append, hn, ih (n - cut n) (by omega) (l.drop (cut n)) (i - cut n) (by rw [List.length_drop, hn])]
        rfl
    · rw [path_few l i (by omega), sides_few i n (by omega)]; rfl
/-- what is summed of a leaf, node by node; the hash in the end -/
def step (b : Bool) (x p : ByteArray) : List Int := if b = true then joined x p else joined p x
def climb (x : ByteArray) : List Bool → List ByteArray → ByteArray
  | [], _ => x
  | b :: bs, ps => climb (Sha.sum (step b x (ps.headD ByteArray.empty))) bs ps.tail
def inputs (x : ByteArray) : List Bool → List ByteArray → List (List Int)
  | [], _ => []
  | b :: bs, ps => step b x (ps.headD ByteArray.empty) :: inputs (Sha.sum (step b x (ps.headD ByteArray.empty))) bs ps.tail
theorem climb_append (x : ByteArray) (bs cs : List Bool) (ps qs : List ByteArray) (h : ps.length = bs.length) : climb x (bs ++ cs) (ps ++ qs) = climb (climb x bs ps) cs qs := by
  induction bs generalizing x ps with
  | nil =>
    obtain rfl := List.eq_nil_of_length_eq_zero h
    rfl
  | cons b bs ih =>
    cases ps with
    | nil => simp at h
    | cons p ps => exact ih _ ps (by simpa using h)
/-- a path proves its leaf -/
theorem climb_path (l : List ByteArray) (i : Nat) (hi : i < l.length) : climb (l.getD i ByteArray.empty) (sides i l.length) (path l i) = root l := by
  generalize hn : l.length = n
  induction n using Nat.strongRecOn generalizing l i with
  | ind n ih =>
    by_cases h : 2 ≤ n
    · have h2 : 2 ≤ l.length := by omega
      have hc := cut_lt n h
      by_cases hk : i < cut n
      · have hlen : (l.take (cut n)).length = cut n := by rw [← hn]; exact take_len l h2
        rw [path_left l i h2 (by rw [hn]; exact hk), sides_left i n h hk, climb_append _ _ _ _ _ (by rw [path_length, hn, hlen]), hn]
        have := ih (cut n) hc (l.take (cut n)) i (by rw [hlen]; exact hk) hlen
        rw [List.getD_eq_getElem?_getD, List.getElem?_take_of_lt hk, ← List.getD_eq_getElem?_getD] at this
        rw [this, root_many l h2, hn]
        rfl
      · have hp := cut_pos n
        have hlen : (l.drop (cut n)).length = n - cut n := by rw [List.length_drop, hn]
        rw [path_right l i h2 (by rw [hn]; omega), sides_right i n h (by omega), climb_append _ _ _ _ _ (by rw [path_length, hn, hlen]), hn]
        have := ih (n - cut n) (by omega) (l.drop (cut n)) (i - cut n) (by rw [hlen]; omega) hlen
        rw [List.getD_eq_getElem?_getD, List.getElem?_drop, show cut n + (i - cut n) = i by omega, ← List.getD_eq_getElem?_getD] at this
        rw [this, root_many l h2, hn]
        rfl
    · obtain ⟨x, rfl⟩ : ∃ x, l = [x] := by
        cases l with
        | nil => simp at hi
        | cons x r => cases r with
          | nil => exact ⟨x, rfl⟩
          | cons y r => simp at hn; omega
      obtain rfl : i = 0 := by simp at hi; exact hi
      rw [path_few _ _ (by simp), sides_few _ _ (by omega), root_one]
      rfl
theorem root_sized (l : List ByteArray) (h : ∀ x ∈ l, x.size = 32) : (root l).size = 32 := by
  by_cases h2 : 2 ≤ l.length
  · rw [root_many l h2]; exact node_size _ _
  · cases l with
    | nil => rw [root_nil]; exact Sha.sum_size _
    | cons x r => cases r with
      | nil => rw [root_one]; exact h x (by simp)
      | cons y r => simp at h2
theorem path_sized (l : List ByteArray) (i : Nat) (h : ∀ x ∈ l, x.size = 32) : ∀ x ∈ path l i, x.size = 32 := by
  generalize hn : l.length = n
  induction n using Nat.strongRecOn generalizing l i with
  | ind n ih =>
    by_cases h2 : 2 ≤ l.length
    · have hc := cut_lt _ h2
      have hp := cut_pos l.length
      by_cases hk : i < cut l.length
      · rw [path_left l i h2 hk]
        intro x hx
        rcases List.mem_append.1 hx with hx | hx
        · exact ih _ (by rw [take_len l h2]; omega) (l.take (cut l.length)) i (fun x hx => h x (List.mem_of_mem_take hx)) rfl x hx
        · rw [List.mem_singleton.1 hx]; exact root_sized _ (fun x hx => h x (List.mem_of_mem_drop hx))
      · rw [path_right l i h2 (by omega)]
        intro x hx
        rcases List.mem_append.1 hx with hx | hx
        · exact ih _ (by rw [drop_len]; omega) (l.drop (cut l.length)) _ (fun x hx => h x (List.mem_of_mem_drop hx)) rfl x hx
        · rw [List.mem_singleton.1 hx]; exact root_sized _ (fun x hx => h x (List.mem_of_mem_take hx))
    · rw [path_few l i (by omega)]; intro x hx; cases hx
theorem sub_sized (m : Nat) (l : List ByteArray) (own : Bool) (h : ∀ x ∈ l, x.size = 32) : ∀ x ∈ sub m l own, x.size = 32 := by
  generalize hn : l.length = n
  induction n using Nat.strongRecOn generalizing m l own with
  | ind n ih =>
    by_cases hm : m = l.length
    · subst hm
      rw [sub_all]
      intro x hx
      split at hx
      · cases hx
      · rw [List.mem_singleton.1 hx]; exact root_sized _ h
    · by_cases h2 : 2 ≤ l.length
      · have hc := cut_lt _ h2
        have hp := cut_pos l.length
        by_cases hk : m ≤ cut l.length
        · rw [sub_left m l own hm h2 hk]
          intro x hx
          rcases List.mem_append.1 hx with hx | hx
          · exact ih _ (by rw [take_len l h2]; omega) m (l.take (cut l.length)) own (fun x hx => h x (List.mem_of_mem_take hx)) rfl x hx
          · rw [List.mem_singleton.1 hx]; exact root_sized _ (fun x hx => h x (List.mem_of_mem_drop hx))
        · rw [sub_right m l own hm h2 (by omega)]
          intro x hx
          rcases List.mem_append.1 hx with hx | hx
          · exact ih _ (by rw [drop_len]; omega) _ (l.drop (cut l.length)) _ (fun x hx => h x (List.mem_of_mem_drop hx)) rfl x hx
          · rw [List.mem_singleton.1 hx]; exact root_sized _ (fun x hx => h x (List.mem_of_mem_take hx))
      · rw [sub, if_neg hm, dif_neg h2]; intro x hx; cases hx
/-! ### A beginning's proof -/
def next : List ByteArray → ByteArray × List ByteArray × Bool
  | [] => (ByteArray.empty, [], true)
  | s :: r => (s, r, false)
/-- both roots, what is left of the proof, and whether it was too short -/
def walk (old : ByteArray) (m n : Nat) (own : Bool) (p : List ByteArray) : ByteArray × ByteArray × List ByteArray × Bool :=
  if m = n then (if own = true then (old, old, p, false) else ((next p).1, (next p).1, (next p).2.1, (next p).2.2)) else
  if h : 2 ≤ n then
    if m ≤ cut n then
      let r := walk old m (cut n) own p
      (r.1, node r.2.1 (next r.2.2.1).1, (next r.2.2.1).2.1, r.2.2.2 || (next r.2.2.1).2.2)
    else
      let r := walk old (m - cut n) (n - cut n) false p
      (node (next r.2.2.1).1 r.1, node (next r.2.2.1).1 r.2.1, (next r.2.2.1).2.1, r.2.2.2 || (next r.2.2.1).2.2)
  else (old, old, p, true)
termination_by n
decreasing_by
  · exact cut_lt _ h
  · have := cut_pos n; omega
theorem walk_own (old : ByteArray) (n : Nat) (p : List ByteArray) : walk old n n true p = (old, old, p, false) := by
  rw [walk, if_pos rfl, if_pos rfl]
theorem walk_all (old : ByteArray) (n : Nat) (p : List ByteArray) : walk old n n false p = ((next p).1, (next p).1, (next p).2.1, (next p).2.2) := by
  rw [walk, if_pos rfl, if_neg (by simp)]
theorem walk_left (old : ByteArray) (m n : Nat) (own : Bool) (p : List ByteArray) (hm : m ≠ n) (h : 2 ≤ n) (hk : m ≤ cut n) :
    walk old m n own p = ((walk old m (cut n) own p).1, node (walk old m (cut n) own p).2.1 (next (walk old m (cut n) own p).2.2.1).1, (next (walk old m (cut n) own p).2.2.1).2.1, (walk old m (cut n) own p).2.2.2 || (next (walk old m (cut n) own p).2.2.1).2.2) := by
  rw [walk, if_neg hm, dif_pos h, if_pos hk]
theorem walk_right (old : ByteArray) (m n : Nat) (own : Bool) (p : List ByteArray) (hm : m ≠ n) (h : 2 ≤ n) (hk : cut n < m) :
    walk old m n own p = (node (next (walk old (m - cut n) (n - cut n) false p).2.2.1).1 (walk old (m - cut n) (n - cut n) false p).1, node (next (walk old (m - cut n) (n - cut n) false p).2.2.1).1 (walk old (m - cut n) (n - cut n) false p).2.1, (next (walk old (m - cut n) (n - cut n) false p).2.2.1).2.1, (walk old (m - cut n) (n - cut n) false p).2.2.2 || (next (walk old (m - cut n) (n - cut n) false p).2.2.1).2.2) := by
  rw [walk, if_neg hm, dif_pos h, if_neg (by omega)]
def wholeL (l : List ByteArray) : Bool := l.all fun s => decide (s.size = 32)
/-- 0: taken; 8: no such place; 9: not taken -/
def checkProof (m n : Int) (proof : List ByteArray) (old root : ByteArray) : Int :=
  if m < 1 ∨ m > n ∨ n > 1099511627776 then 8 else
  if (wholeL proof && wholeL [old, root]) = false then 9 else
  let r := walk old m.toNat n.toNat true proof
  if r.2.2.2 = true ∨ r.2.2.1 ≠ [] ∨ r.1 ≠ old ∨ r.2.1 ≠ root then 9 else 0
/-- a proof shows the beginning -/
theorem walk_sub (l : List ByteArray) (m : Nat) (own : Bool) (old : ByteArray) (rest : List ByteArray) (h1 : 1 ≤ m) (h2 : m ≤ l.length) (ho : own = true → old = root (l.take m)) :
    walk old m l.length own (sub m l own ++ rest) = (root (l.take m), root l, rest, false) := by
  generalize hn : l.length = n
  induction n using Nat.strongRecOn generalizing l m own rest with
  | ind n ih =>
    by_cases hm : m = n
    · subst hm
      subst hn
      rw [sub_all, List.take_length]
      cases own with
      | true => rw [walk_own, ho rfl, List.take_length]; rfl
      | false => rw [walk_all]; rfl
    · have hl2 : 2 ≤ l.length := by omega
      have hn2 : 2 ≤ n := by omega
      have hc := cut_lt n hn2
      have hp := cut_pos n
      by_cases hk : m ≤ cut n
      · have hlen : (l.take (cut n)).length = cut n := by rw [← hn]; exact take_len l hl2
        have htt : (l.take (cut n)).take m = l.take m := by rw [List.take_take, Nat.min_eq_left hk]
        have hw := ih (cut n) hc (l.take (cut n)) m own ([root (l.drop (cut n))] ++ rest) h1 (by omega) (by rw [htt]; exact ho) hlen
        rw [sub_left m l own (by omega) hl2 (by rw [hn]; exact hk), hn, List.append_assoc, walk_left _ _ _ _ _ hm hn2 hk, hw, htt, root_many l hl2, hn]
        rfl
      · have hlen : (l.drop (cut n)).length = n - cut n := by rw [List.length_drop, hn]
        have hw := ih (n - cut n) (by omega) (l.drop (cut n)) (m - cut n) false ([root (l.take (cut n))] ++ rest) (by omega) (by omega) (by simp) hlen
        rw [sub_right m l own (by omega) hl2 (by rw [hn]; omega), hn, List.append_assoc, walk_right _ _ _ _ _ hm hn2 (by omega), hw, root_many l hl2, hn]
        refine Prod.ext ?_ rfl
        have hmt : (l.take m).length = m := by rw [List.length_take]; omega
        have hcm : cut m = cut n := cut_eq m (bitLen (n - 1) - 1) (by omega) (show cut n < m by omega) (show m ≤ 2 * cut n by have := cut_two n hn2; omega)
        show node (root (l.take (cut n))) (root ((l.drop (cut n)).take (m - cut n))) = root (l.take m)
        rw [root_many (l.take m) (by omega), hmt, hcm, List.take_take, Nat.min_eq_left (by omega), List.drop_take]
end Go.Proofs.Ytkbbdbnjplcjdaa.Hs
end
