/-
  The bits of a filter: in whatever order they are set, and set twice.
-/
import Derived.Test.YtojabcadoajbjaaBloomF
namespace Go.Proofs.Ytojabcadoajbjaa
open Go.RowKit Go.Proofs.YtojabcadoajbjaaW.PrintWords Go.Proofs.YtojabcadoajbjaaW.PrintLast Go.Proofs.YtojabcadoajbjaaW.PrintMore
set_option linter.unusedVariables false
set_option linter.unusedSimpArgs false

theorem or8_def (x y : Int) : Go.bits .or .u8 x y = ((BitVec.ofInt 8 x ||| BitVec.ofInt 8 y).toNat : Int) := by
  show IntKind.u8.wrap ((BitVec.ofInt 8 x ||| BitVec.ofInt 8 y).toNat : Nat) = _
  have := (BitVec.ofInt 8 x ||| BitVec.ofInt 8 y).isLt
  rw [IntKind.wrap_u8]
  omega
theorem ofInt_toNat (v : BitVec 8) : BitVec.ofInt 8 (v.toNat : Int) = v := by
  rw [BitVec.ofInt_natCast, BitVec.ofNat_toNat, BitVec.setWidth_eq]
theorem or8_swap (x a b : Int) : Go.bits .or .u8 (Go.bits .or .u8 x a) b = Go.bits .or .u8 (Go.bits .or .u8 x b) a := by
  rw [or8_def, or8_def x a, or8_def _ a, or8_def x b, ofInt_toNat, ofInt_toNat, BitVec.or_assoc, BitVec.or_assoc, BitVec.or_comm (BitVec.ofInt 8 a)]
theorem or8_twice (x a : Int) : Go.bits .or .u8 (Go.bits .or .u8 x a) a = Go.bits .or .u8 x a := by
  rw [or8_def, or8_def x a, ofInt_toNat, BitVec.or_assoc, BitVec.or_self]
theorem rd_set (l : List Int) (i : Nat) (v : Int) (j : Int) : rd (l.set i v) j = if j.toNat = i ∧ i < l.length then v else rd l j := by
  unfold rd
  rw [List.getD_eq_getElem?_getD, List.getD_eq_getElem?_getD, List.getElem?_set]
  by_cases h : i = j.toNat
  · subst h
    by_cases h2 : j.toNat < l.length
    · simp [h2]
    · simp [h2, List.getElem?_eq_none (Nat.le_of_not_lt h2)]
  · rw [if_neg h, if_neg (fun e => h e.1.symm)]
theorem setBit_swap (l : List Int) (p q : Int) : setBit (setBit l p) q = setBit (setBit l q) p := by
  unfold setBit
  rw [rd_set, rd_set]
  by_cases h : (Int.tdiv q 8).toNat = (Int.tdiv p 8).toNat
  · have hr : rd l (Int.tdiv q 8) = rd l (Int.tdiv p 8) := by unfold rd; rw [h]
    rw [h]
    by_cases h2 : (Int.tdiv p 8).toNat < l.length
    · rw [if_pos ⟨rfl, h2⟩, if_pos ⟨rfl, h2⟩, List.set_set, List.set_set, hr, or8_swap]
    · rw [if_neg (fun e => h2 e.2), if_neg (fun e => h2 e.2)]
      rw [List.set_eq_of_length_le (by simpa using Nat.le_of_not_lt h2), List.set_eq_of_length_le (Nat.le_of_not_lt h2), List.set_eq_of_length_le (by simpa using Nat.le_of_not_lt h2), List.set_eq_of_length_le (Nat.le_of_not_lt h2)]
  · rw [if_neg (fun e => h e.1), if_neg (fun e => h e.1.symm)]
    exact List.set_comm _ _ (fun e => h e.symm)
theorem setBit_twice (l : List Int) (p : Int) : setBit (setBit l p) p = setBit l p := by
  unfold setBit
  rw [rd_set]
  by_cases h2 : (Int.tdiv p 8).toNat < l.length
  · rw [if_pos ⟨rfl, h2⟩, List.set_set, or8_twice]
  · rw [if_neg (fun e => h2 e.2), List.set_eq_of_length_le (by simpa using Nat.le_of_not_lt h2)]
theorem setKey_bit (l : List Int) (h s bits : Int) (k : Nat) (q : Int) : setKey (setBit l q) h s bits k = setBit (setKey l h s bits k) q := by
  induction k with
  | zero => rfl
  | succ k ih => rw [setKey, ih, setBit_swap]; rfl
theorem setKey_swap (l : List Int) (h s h2 s2 bits : Int) (k j : Nat) : setKey (setKey l h s bits k) h2 s2 bits j = setKey (setKey l h2 s2 bits j) h s bits k := by
  induction k with
  | zero => rfl
  | succ k ih => rw [setKey, setKey_bit, ih]; rfl
theorem setKey_sub (l : List Int) (h s bits : Int) (k j : Nat) (hj : j ≤ k) : setKey (setKey l h s bits k) h s bits j = setKey l h s bits k := by
  induction j with
  | zero => rfl
  | succ j ih =>
    rw [setKey, ih (by omega)]
    clear ih
    induction k with
    | zero => omega
    | succ k ih =>
      by_cases e : j = k
      · subst e
        rw [setKey, setBit_twice]
      · rw [setKey, setBit_swap, ih (by omega)]
/-- one key into a filter -/
def putKey (bits : Int) (l key : List Int) : List Int := setKey l (crcOf key) (c1u (crcOf (key ++ [1]))) bits 6
theorem setAll_put (bits : Int) (l : List Int) (keys : List (List Int)) : setAll crcOf bits l keys = keys.foldl (putKey bits) l := rfl
theorem put_all (bits : Int) (keys : List (List Int)) : ∀ (l key : List Int), keys.foldl (putKey bits) (putKey bits l key) = putKey bits (keys.foldl (putKey bits) l) key := by
  induction keys with
  | nil => intro l key; rfl
  | cons k ks ih => intro l key; rw [List.foldl_cons, List.foldl_cons, show putKey bits (putKey bits l key) k = putKey bits (putKey bits l k) key from setKey_swap _ _ _ _ _ _ _ _, ih]
theorem setAll_reverse (bits : Int) (l : List Int) (keys : List (List Int)) : setAll crcOf bits l keys.reverse = setAll crcOf bits l keys := by
  rw [setAll_put, setAll_put]
  induction keys generalizing l with
  | nil => rfl
  | cons k ks ih => rw [List.reverse_cons, List.foldl_append, ih, List.foldl_cons, List.foldl_nil, List.foldl_cons, put_all]
theorem setAll_again (bits : Int) (keys : List (List Int)) (key : List Int) (hk : key ∈ keys) : ∀ l, setAll crcOf bits l (keys ++ [key]) = setAll crcOf bits l keys := by
  intro l
  rw [setAll_put, setAll_put, List.foldl_append, List.foldl_cons, List.foldl_nil]
  induction keys generalizing l with
  | nil => cases hk
  | cons k ks ih =>
    rw [List.foldl_cons]
    rcases List.mem_cons.1 hk with rfl | hk
    · rw [put_all]
      exact setKey_sub _ _ _ _ 6 6 (Nat.le_refl _)
    · exact ih hk _
theorem buildB_reverse (keys : List (List Int)) : buildB keys.reverse = buildB keys := by
  unfold buildB
  rw [List.length_reverse, setAll_reverse]
theorem buildB_again (keys : List (List Int)) (k1 k2 : List Int) (h1 : k1 ∈ keys) (h2 : k2 ∈ keys) : buildB (keys ++ [k1]) = buildB (keys ++ [k2]) := by
  unfold buildB
  rw [List.length_append, List.length_append, setAll_again _ _ _ h1, setAll_again _ _ _ h2]
  rfl
end Go.Proofs.Ytojabcadoajbjaa
