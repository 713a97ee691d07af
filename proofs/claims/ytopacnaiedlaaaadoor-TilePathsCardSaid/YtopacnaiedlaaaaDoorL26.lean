-- JOINED BY A PROGRAM OF THIS PLACE (wip/tools/pack.py) out of: THs
import Derived.Test.YtopacnaiedlaaaaDoorL13
import Derived.Test.YtopacnaiedlaaaaDoorL17
import Derived.Test.YtopacnaiedlaaaaDoorL18
import Derived.Test.YtopacnaiedlaaaaDoorL19
import Derived.Test.YtopacnaiedlaaaaDoorL20
import Derived.Test.YtopacnaiedlaaaaDoorL24
section
/-
  The program's Root, Path, Proof and the document's Root, Cut, as the plain text Hs has them (the tile seat's part of the hash chapter's plain laws).
-/
namespace Go.Proofs.YtopacnaiedlaaaaDoor.F
open Go.RowKit Go.Proofs.YtopacnaiedlaaaaDoor Go.Proofs.YtopacnaiedlaaaaDoorW.PrintWords Go.Proofs.YtopacnaiedlaaaaDoorW.PrintLast Go.Proofs.YtopacnaiedlaaaaDoorW.PrintMore
set_option linter.unusedVariables false
set_option linter.unusedSimpArgs false
def small (s : ByteArray) : Prop := s.size ≤ 1099511627776
theorem small_node (a b : ByteArray) : small (Hs.node a b) := by
  unfold small
  rw [Hs.node_size]
  omega
theorem node_small (a b : ByteArray) (ha : small a) (hb : small b) : hash_Node.f a b = some (Hs.node a b) := node_some a b (by unfold small at ha hb; omega)
def smalls (l : List ByteArray) : Prop := ∀ x ∈ l, small x
theorem smalls_take {l : List ByteArray} (h : smalls l) (k : Nat) : smalls (l.take k) := fun x hx => h x (List.mem_of_mem_take hx)
theorem smalls_drop {l : List ByteArray} (h : smalls l) (k : Nat) : smalls (l.drop k) := fun x hx => h x (List.mem_of_mem_drop hx)
theorem small_32 {x : ByteArray} (h : x.size = 32) : small x := by unfold small; omega
theorem small_root (l : List ByteArray) (h : smalls l) : small (Hs.root l) := by
  by_cases h2 : 2 ≤ l.length
  · rw [Hs.root_many l h2]; exact small_node _ _
  · cases l with
    | nil => rw [Hs.root_nil]; exact small_32 (Sha.sum_size _)
    | cons x r => cases r with
      | nil => rw [Hs.root_one]; exact h x (by simp)
      | cons y r => simp at h2
theorem root_ev (n : Nat) : ∀ (l : List ByteArray), l.length = n → n ≤ 1152921504606846976 → smalls l → Ev (fun k => hash_Root.f k l) (Hs.root l) := by
  induction n using Nat.strongRecOn with
  | ind n ih =>
    intro l hl hn hs
    by_cases h2 : 2 ≤ n
    · have hc := Hs.cut_lt n h2
      have hp := Hs.cut_pos n
      have e1 := ih (Hs.cut n) hc (l.take (Hs.cut n)) (by rw [← hl]; exact Hs.take_len l (by omega)) (by omega) (smalls_take hs _)
      have e2 := ih (n - Hs.cut n) (by omega) (l.drop (Hs.cut n)) (by rw [List.length_drop, hl]) (by omega) (smalls_drop hs _)
      refine Ev.step (f := fun k => (hash_Root.f k (l.take (Hs.cut n))).bind fun t => (hash_Root.f k (l.drop (Hs.cut n))).bind fun t' => (hash_Node.f t t').bind fun t'' => some t'') (fun k => ?_) (Ev.bind e1 (Ev.bind e2 (Ev.congr (fun _ => ?_) (Ev.now _))))
      · simp only [hash_Root.f]
        rw [hl, if_neg (by omega), if_neg (by omega), cut_some n h2 (by omega), Option.bind_some, if_pos (by omega), if_pos (by omega), Int.toNat_natCast]
      · rw [Hs.root_many l (by omega), hl, node_small _ _ (small_root _ (smalls_take hs _)) (small_root _ (smalls_drop hs _))]
        rfl
    · refine Ev.step (f := fun _ => some (Hs.root l)) (fun k => ?_) (Ev.now _)
      simp only [hash_Root.f]
      cases l with
      | nil =>
        rw [if_pos (show (([] : List ByteArray).length : Int) = 0 from rfl), sum_ok [] (by simp) (by simp), Hs.root_nil]
        rfl
      | cons x r => cases r with
        | nil =>
          rw [if_neg (show ¬ (([x] : List ByteArray).length : Int) = 0 by simp), if_pos (show (([x] : List ByteArray).length : Int) = 1 from rfl), if_pos (show 0 < (([x] : List ByteArray).length : Int) by simp), Hs.root_one]
          rfl
        | cons y r => simp at hl; omega
theorem rcut_from (n E : Nat) (hn : n ≤ 2305843009213693952) (h1 : 2 ^ E < n) (h2 : n ≤ 2 * 2 ^ E) (d : Nat) : ∀ e, e + d = E → Ev (fun k => sawyerref15_Cut.l0 k (n : Int) ((2 ^ e : Nat) : Int)) ((2 ^ E : Nat) : Int) := by
  induction d with
  | zero =>
    intro e he
    obtain rfl : e = E := by omega
    refine Ev.step (f := fun _ => some _) (fun k => ?_) (Ev.now _)
    simp only [sawyerref15_Cut.l0]
    rw [if_neg (by unfold wrap64; omega)]
  | succ d ih =>
    intro e he
    have hle : 2 ^ (e + 1) ≤ 2 ^ E := Nat.pow_le_pow_right (by omega) (by omega)
    have hp : 2 ^ (e + 1) = 2 * 2 ^ e := by rw [Nat.pow_succ]; omega
    have hw : wrap64 (2 * ((2 ^ e : Nat) : Int)) = ((2 ^ (e + 1) : Nat) : Int) := by
      rw [hp]
      unfold wrap64
      omega
    refine Ev.step (fun k => ?_) (ih (e + 1) (by omega))
    simp only [sawyerref15_Cut.l0]
    rw [hw, if_pos (by omega)]
theorem rcut_some (n : Nat) (h : 2 ≤ n) (hn : n ≤ 2305843009213693952) : Ev (fun k => sawyerref15_Cut.f k (n : Int)) (Hs.cut n : Int) := by
  have a := Hs.cut_lt n h
  have b := Hs.cut_two n h
  unfold Hs.cut at a b ⊢
  exact rcut_from n _ hn a b _ 0 (Nat.zero_add _)
theorem rnode_some (a b : ByteArray) (h : a.size + b.size ≤ 140737488354000) : sawyerref15_Node.f a b = some (Hs.node a b) := if_pos (decide_eq_true h)
theorem rnode_sm (a b : ByteArray) (ha : small a) (hb : small b) : sawyerref15_Node.f a b = some (Hs.node a b) := rnode_some a b (by unfold small at ha hb; omega)
theorem rroot_ev (n : Nat) : ∀ (l : List ByteArray), l.length = n → n ≤ 1152921504606846976 → smalls l → Ev (fun k => sawyerref15_Root.f k l) (Hs.root l) := by
  induction n using Nat.strongRecOn with
  | ind n ih =>
    intro l hl hn hs
    by_cases h2 : 2 ≤ n
    · have hc := Hs.cut_lt n h2
      have hp := Hs.cut_pos n
      have e0 := rcut_some n h2 (by omega)
      have e1 := ih (Hs.cut n) hc (l.take (Hs.cut n)) (by rw [← hl]; exact Hs.take_len l (by omega)) (by omega) (smalls_take hs _)
      have e2 := ih (n - Hs.cut n) (by omega) (l.drop (Hs.cut n)) (by rw [List.length_drop, hl]) (by omega) (smalls_drop hs _)
      refine Ev.step (f := fun k => (sawyerref15_Cut.f k (n : Int)).bind fun t344 => (if 0 ≤ t344 then (if t344 ≤ (n : Int) then ((sawyerref15_Root.f k (l.take (t344 : Int).toNat)).bind fun t346 => ((sawyerref15_Root.f k (l.drop (t344 : Int).toNat)).bind fun t348 => ((sawyerref15_Node.f t346 t348).bind fun t349 => (some t349)))) else (none)) else (none))) (fun k => ?_) (Ev.bind e0 (Ev.congr (f := fun k => (sawyerref15_Root.f k (l.take (Hs.cut n))).bind fun t346 => ((sawyerref15_Root.f k (l.drop (Hs.cut n))).bind fun t348 => ((sawyerref15_Node.f t346 t348).bind fun t349 => (some t349)))) (fun k => ?_) (Ev.bind e1 (Ev.bind e2 (Ev.congr (fun _ => ?_) (Ev.now _))))))
      · simp only [sawyerref15_Root.f]
        rw [hl, if_neg (by omega), if_neg (by omega)]
      · rw [if_pos (by omega), if_pos (by omega), Int.toNat_natCast]
      · rw [Hs.root_many l (by omega), hl, rnode_sm _ _ (small_root _ (smalls_take hs _)) (small_root _ (smalls_drop hs _))]
        rfl
    · cases l with
      | nil =>
        refine Ev.step (f := fun k => (sawyerref01_Sum.f k ([] : List Int)).bind fun t => some t) (fun k => ?_) (Ev.bind (f := fun _ t => some t) (ref_sum [] (ok_of [] (by simp) (by simp))) (by rw [Hs.root_nil]; exact Ev.now _))
        simp only [sawyerref15_Root.f]
        rw [if_pos (show (([] : List ByteArray).length : Int) = 0 from rfl)]
      | cons x r => cases r with
        | nil =>
          refine Ev.step (f := fun _ => some (Hs.root [x])) (fun k => ?_) (Ev.now _)
          simp only [sawyerref15_Root.f]
          rw [if_neg (show ¬ (([x] : List ByteArray).length : Int) = 0 by simp), if_pos (show (([x] : List ByteArray).length : Int) = 1 from rfl), if_pos (show 0 < (([x] : List ByteArray).length : Int) by simp), Hs.root_one]
          rfl
        | cons y r => simp at hl; omega
theorem rev_string_from (n : Nat) : ∀ (A M B : List ByteArray), M.length = n → (A ++ M ++ B).length ≤ 4611686018427387903 → Ev (fun k => slices_Reverse_string_string.l0 k (A ++ M ++ B) (A.length : Int) ((A.length : Int) + (M.length : Int) - 1)) (A ++ M.reverse ++ B) := by
  induction n using Nat.strongRecOn with
  | ind n ih =>
    intro A M B hM hL
    rcases Nat.lt_or_ge M.length 2 with h2 | h2
    · have hr : M.reverse = M := by
        cases M with
        | nil => rfl
        | cons x r =>
          cases r with
          | nil => rfl
          | cons y r => simp at h2; omega
      rw [hr]
      refine Ev.step (f := fun _ => some _) (fun k => ?_) (Ev.now _)
      simp only [slices_Reverse_string_string.l0]
      rw [if_neg (by omega)]
    · obtain ⟨x, r, rfl⟩ : ∃ x r, M = x :: r := by
        cases M with
        | nil => simp at h2
        | cons x r => exact ⟨x, r, rfl⟩
      obtain ⟨M', y, rfl⟩ : ∃ M' y, r = M' ++ [y] := by
        refine ⟨r.dropLast, r.getLast (by intro e; subst e; simp at h2), ?_⟩
        exact (List.dropLast_concat_getLast _).symm
      have hl : (x :: (M' ++ [y])).length = M'.length + 2 := by simp
      have hlen : (A ++ (x :: (M' ++ [y])) ++ B).length = A.length + M'.length + 2 + B.length := by simp; omega
      have h := ih M'.length (by omega) (A ++ [y]) M' (x :: B) rfl (by simp at hL ⊢; omega)
      have e : (A ++ [y]) ++ M'.reverse ++ (x :: B) = A ++ (x :: (M' ++ [y])).reverse ++ B := by simp
      rw [e] at h
      refine Ev.step (fun k => ?_) h
      simp only [slices_Reverse_string_string.l0]
      rw [hlen] at hL
      rw [hl, hlen, if_pos (by omega), if_pos (by omega), if_pos (by omega), if_pos (by omega), if_pos (by omega)]
      have hj : ((A.length : Int) + ((M'.length + 2 : Nat) : Int) - 1).toNat = A.length + M'.length + 1 := by omega
      have hy : rdOf ByteArray.empty (A ++ (x :: (M' ++ [y])) ++ B) ((A.length : Int) + ((M'.length + 2 : Nat) : Int) - 1) = y := by
        unfold rdOf
        rw [hj, List.getD_eq_getElem?_getD, List.append_assoc, List.getElem?_append_right (by omega), show A.length + M'.length + 1 - A.length = M'.length + 1 by omega, List.cons_append, List.getElem?_cons_succ, List.append_assoc, List.getElem?_append_right (by omega), Nat.sub_self]
        rfl
      have hx : rdOf ByteArray.empty (A ++ (x :: (M' ++ [y])) ++ B) (A.length : Int) = x := by
        unfold rdOf
        rw [Int.toNat_natCast, List.getD_eq_getElem?_getD, List.append_assoc, List.getElem?_append_right (by omega), Nat.sub_self]
        rfl
      rw [hy, hx, hj, Int.toNat_natCast]
      have hs : ((A ++ (x :: (M' ++ [y])) ++ B).set A.length y).set (A.length + M'.length + 1) x = (A ++ [y]) ++ M' ++ (x :: B) := by
        rw [List.append_assoc, List.set_append_right _ _ (by omega), Nat.sub_self, List.cons_append, List.set_cons_zero, List.set_append_right _ _ (by omega), show A.length + M'.length + 1 - A.length = M'.length + 1 by omega, List.set_cons_succ, List.append_assoc, List.set_append_right _ _ (by omega), Nat.sub_self]
        simp
      rw [hs]
      congr 1
      · rw [List.length_append]; simp; unfold wrap64; omega
      · rw [List.length_append]; simp; unfold wrap64; omega
theorem rev_string (l : List ByteArray) (hl : l.length ≤ 4611686018427387903) : Ev (fun k => slices_Reverse_string_string.f k l) l.reverse := by
  have h := rev_string_from l.length [] l [] rfl (by simpa using hl)
  simp only [List.nil_append, List.append_nil, List.length_nil] at h
  refine Ev.congr (fun k => ?_) h
  unfold slices_Reverse_string_string.f
  congr 1
  unfold wrap64
  omega
theorem path_from (n : Nat) : ∀ (l : List ByteArray) (i : Nat) (acc : List ByteArray), l.length = n → 1 ≤ n → i < n → n ≤ 1152921504606846976 → smalls l → acc.length + (Hs.sides i n).length ≤ 4398046511104 →
    Ev (fun k => hash_Path.l0 k l (i : Int) acc) (Hs.path l i ++ acc.reverse, 0) := by
  induction n using Nat.strongRecOn with
  | ind n ih =>
    intro l i acc hl h1 hi hn hs ha
    by_cases h2 : 2 ≤ n
    · have hc := Hs.cut_lt n h2
      have hp := Hs.cut_pos n
      by_cases hk : i < Hs.cut n
      · rw [Hs.sides_left i n h2 hk, List.length_append, List.length_singleton] at ha
        have e0 := root_ev (n - Hs.cut n) (l.drop (Hs.cut n)) (by rw [List.length_drop, hl]) (by omega) (smalls_drop hs _)
        have e1 := ih (Hs.cut n) hc (l.take (Hs.cut n)) i (acc ++ [Hs.root (l.drop (Hs.cut n))]) (by rw [← hl]; exact Hs.take_len l (by omega)) hp hk (by omega) (smalls_take hs _) (by rw [List.length_append, List.length_singleton]; omega)
        rw [Hs.path_left l i (by omega) (by rw [hl]; exact hk), hl]
        refine Ev.step (f := fun k => (hash_Root.f k (l.drop (Hs.cut n))).bind fun t => if acc.length < 8796093022208 then hash_Path.l0 k (l.take (Hs.cut n)) (i : Int) (acc ++ [t]) else none) (fun k => ?_) (Ev.bind e0 (Ev.congr (fun k => if_pos (by omega)) (by simpa using e1)))
        simp only [hash_Path.l0]
        rw [hl, if_pos (by omega), cut_some n h2 (by omega), Option.bind_some, if_pos (by omega), if_pos (by omega), if_pos (by omega), Int.toNat_natCast]
      · rw [Hs.sides_right i n h2 (by omega), List.length_append, List.length_singleton] at ha
        have e0 := root_ev (Hs.cut n) (l.take (Hs.cut n)) (by rw [← hl]; exact Hs.take_len l (by omega)) (by omega) (smalls_take hs _)
        have e1 := ih (n - Hs.cut n) (by omega) (l.drop (Hs.cut n)) (i - Hs.cut n) (acc ++ [Hs.root (l.take (Hs.cut n))]) (by rw [List.length_drop, hl]) (by omega) (by omega) (by omega) (smalls_drop hs _) (by rw [List.length_append, List.length_singleton]; omega)
        rw [Hs.path_right l i (by omega) (by rw [hl]; omega), hl]
        refine Ev.step (f := fun k => (hash_Root.f k (l.take (Hs.cut n))).bind fun t => if acc.length < 8796093022208 then hash_Path.l0 k (l.drop (Hs.cut n)) (((i - Hs.cut n : Nat) : Int)) (acc ++ [t]) else none) (fun k => ?_) (Ev.bind e0 (Ev.congr (fun k => if_pos (by omega)) (by simpa using e1)))
        simp only [hash_Path.l0]
        rw [hl, if_pos (by omega), cut_some n h2 (by omega), Option.bind_some, if_neg (by omega), if_pos (by omega), if_pos (by omega), Int.toNat_natCast, show wrap64 ((i : Int) - (Hs.cut n : Int)) = ((i - Hs.cut n : Nat) : Int) by unfold wrap64; omega]
    · rw [Hs.path_few l i (by omega), List.nil_append]
      refine Ev.step (f := fun k => (slices_Reverse_string_string.f k acc).bind fun t => some (t, 0)) (fun k => ?_) (Ev.bind (f := fun _ t => some (t, 0)) (rev_string acc (by omega)) (Ev.now _))
      simp only [hash_Path.l0]
      rw [hl, if_neg (by omega)]
theorem sides_le (n : Nat) : ∀ i e, n ≤ 2 ^ e → (Hs.sides i n).length ≤ e := by
  induction n using Nat.strongRecOn with
  | ind n ih =>
    intro i e he
    by_cases h2 : 2 ≤ n
    · have hc := Hs.cut_lt n h2
      have hp := Hs.cut_pos n
      have hc2 := Hs.cut_two n h2
      cases e with
      | zero => simp at he; omega
      | succ e =>
        have hle : Hs.cut n ≤ 2 ^ e := by
          unfold Hs.cut at hc ⊢
          rcases Nat.lt_or_ge e (bitLen (n - 1) - 1) with h | h
          · have : 2 ^ (e + 1) ≤ 2 ^ (bitLen (n - 1) - 1) := Nat.pow_le_pow_right (by omega) (by omega)
            omega
          · exact Nat.pow_le_pow_right (by omega) h
        by_cases hk : i < Hs.cut n
        · rw [Hs.sides_left i n h2 hk, List.length_append, List.length_singleton]
          have := ih (Hs.cut n) hc i e hle
          omega
        · rw [Hs.sides_right i n h2 (by omega), List.length_append, List.length_singleton]
          have := ih (n - Hs.cut n) (by omega) (i - Hs.cut n) e (by omega)
          omega
    · rw [Hs.sides_few i n (by omega)]; simp
theorem sides_60 (i n : Nat) (h : n ≤ 1152921504606846976) : (Hs.sides i n).length ≤ 60 := sides_le n i 60 h
/-- a path, or that there is none -/
def pathR (l : List ByteArray) (i : Int) : List ByteArray × Int := if 0 ≤ i ∧ i < (l.length : Int) then (Hs.path l i.toNat, 0) else ([], 8)
theorem path_ev (l : List ByteArray) (i : Int) (hn : l.length ≤ 1152921504606846976) (hs : smalls l) : Ev (fun k => hash_Path.f k l i) (pathR l i) := by
  unfold pathR
  by_cases h : 0 ≤ i ∧ i < (l.length : Int)
  · rw [if_pos h]
    obtain ⟨j, rfl⟩ := Int.eq_ofNat_of_zero_le h.1
    have e := path_from l.length l j [] rfl (by omega) (by omega) hn hs (by have := sides_60 j l.length hn; simp; omega)
    rw [List.reverse_nil, List.append_nil] at e
    refine Ev.congr (f := fun k => hash_Path.j0 k l (j : Int) false) (fun k => ?_) (Ev.step (fun k => ?_) e)
    · unfold hash_Path.f
      rw [if_neg (by omega), decide_eq_false (by omega)]
    · simp only [hash_Path.j0]
      rfl
  · rw [if_neg h]
    refine Ev.congr (f := fun k => hash_Path.j0 k l i true) (fun k => ?_) (Ev.step (f := fun _ => some ([], 8)) (fun k => ?_) (Ev.now _))
    · unfold hash_Path.f
      by_cases h0 : i < 0
      · rw [if_pos h0]
      · rw [if_neg h0, decide_eq_true (by omega)]
    · simp only [hash_Path.j0]
      rfl
theorem cut_half (n e : Nat) (h2 : 2 ≤ n) (he : n ≤ 2 ^ (e + 1)) : Hs.cut n ≤ 2 ^ e ∧ n - Hs.cut n ≤ 2 ^ e := by
  have hc := Hs.cut_lt n h2
  have hc2 := Hs.cut_two n h2
  have hle : Hs.cut n ≤ 2 ^ e := by
    unfold Hs.cut at hc ⊢
    rcases Nat.lt_or_ge e (bitLen (n - 1) - 1) with h | h
    · have : 2 ^ (e + 1) ≤ 2 ^ (bitLen (n - 1) - 1) := Nat.pow_le_pow_right (by omega) (by omega)
      omega
    · exact Nat.pow_le_pow_right (by omega) h
  omega
theorem proof_from (n : Nat) : ∀ (e : Nat) (l : List ByteArray) (m : Nat) (acc : List ByteArray) (own : Bool), l.length = n → 1 ≤ m → m ≤ n → n ≤ 2 ^ e → n ≤ 1152921504606846976 → smalls l → acc.length + e ≤ 200 →
    Ev (fun k => hash_Proof.l0 k l (m : Int) acc own) (Hs.sub m l own ++ acc.reverse, 0) := by
  induction n using Nat.strongRecOn with
  | ind n ih =>
    intro e l m acc own hl h1 hm he hn hs ha
    by_cases hmn : m = n
    · subst hmn
      subst hl
      rw [Hs.sub_all]
      cases own with
      | true =>
        refine Ev.step (f := fun k => (slices_Reverse_string_string.f k acc).bind fun t => some (t, 0)) (fun k => ?_) (Ev.bind (f := fun _ t => some (t, 0)) (rev_string acc (by omega)) (Ev.now _))
        simp only [hash_Proof.l0]
        rw [if_neg (by omega), if_pos trivial]
      | false =>
        have e0 := root_ev l.length l rfl hn hs
        refine Ev.step (f := fun k => (hash_Root.f k l).bind fun t => if acc.length < 8796093022208 then ((slices_Reverse_string_string.f k (acc ++ [t])).bind fun t' => some (t', 0)) else none) (fun k => ?_) (Ev.bind e0 (Ev.congr (fun k => if_pos (by omega)) (Ev.bind (f := fun _ t => some (t, 0)) (rev_string (acc ++ [Hs.root l]) (by simp; omega)) ?_)))
        · simp only [hash_Proof.l0]
          rw [if_neg (by omega), if_neg (by simp)]
        · rw [List.reverse_append]
          exact Ev.now _
    · have h2 : 2 ≤ n := by omega
      have hc := Hs.cut_lt n h2
      have hp := Hs.cut_pos n
      cases e with
      | zero => simp at he; omega
      | succ e =>
        obtain ⟨he1, he2⟩ := cut_half n e h2 he
        by_cases hk : m ≤ Hs.cut n
        · have e0 := root_ev (n - Hs.cut n) (l.drop (Hs.cut n)) (by rw [List.length_drop, hl]) (by omega) (smalls_drop hs _)
          have e1 := ih (Hs.cut n) hc e (l.take (Hs.cut n)) m (acc ++ [Hs.root (l.drop (Hs.cut n))]) own (by rw [← hl]; exact Hs.take_len l (by omega)) h1 hk he1 (by omega) (smalls_take hs _) (by rw [List.length_append, List.length_singleton]; omega)
          rw [Hs.sub_left m l own (by omega) (by omega) (by rw [hl]; exact hk), hl]
          refine Ev.step (f := fun k => (hash_Root.f k (l.drop (Hs.cut n))).bind fun t => if acc.length < 8796093022208 then hash_Proof.l0 k (l.take (Hs.cut n)) (m : Int) (acc ++ [t]) own else none) (fun k => ?_) (Ev.bind e0 (Ev.congr (fun k => if_pos (by omega)) (by simpa using e1)))
          simp only [hash_Proof.l0]
          rw [hl, if_pos (by omega), cut_some n h2 (by omega), Option.bind_some, if_pos (by omega), if_pos (by omega), if_pos (by omega), Int.toNat_natCast]
        · have e0 := root_ev (Hs.cut n) (l.take (Hs.cut n)) (by rw [← hl]; exact Hs.take_len l (by omega)) (by omega) (smalls_take hs _)
          have e1 := ih (n - Hs.cut n) (by omega) e (l.drop (Hs.cut n)) (m - Hs.cut n) (acc ++ [Hs.root (l.take (Hs.cut n))]) false (by rw [List.length_drop, hl]) (by omega) (by omega) he2 (by omega) (smalls_drop hs _) (by rw [List.length_append, List.length_singleton]; omega)
          rw [Hs.sub_right m l own (by omega) (by omega) (by rw [hl]; omega), hl]
          refine Ev.step (f := fun k => (hash_Root.f k (l.take (Hs.cut n))).bind fun t => if acc.length < 8796093022208 then hash_Proof.l0 k (l.drop (Hs.cut n)) (((m - Hs.cut n : Nat) : Int)) (acc ++ [t]) false else none) (fun k => ?_) (Ev.bind e0 (Ev.congr (fun k => if_pos (by omega)) (by simpa using e1)))
          simp only [hash_Proof.l0]
          rw [hl, if_pos (by omega), cut_some n h2 (by omega), Option.bind_some, if_neg (by omega), if_pos (by omega), if_pos (by omega), Int.toNat_natCast, show wrap64 ((m : Int) - (Hs.cut n : Int)) = ((m - Hs.cut n : Nat) : Int) by unfold wrap64; omega]
/-- a beginning's proof, or that there is none -/
def proofR (l : List ByteArray) (m : Int) : List ByteArray × Int := if 1 ≤ m ∧ m ≤ (l.length : Int) then (Hs.sub m.toNat l true, 0) else ([], 8)
theorem proof_ev (l : List ByteArray) (m : Int) (hn : l.length ≤ 1152921504606846976) (hs : smalls l) : Ev (fun k => hash_Proof.f k l m) (proofR l m) := by
  unfold proofR
  by_cases h : 1 ≤ m ∧ m ≤ (l.length : Int)
  · rw [if_pos h]
    obtain ⟨j, rfl⟩ := Int.eq_ofNat_of_zero_le (show 0 ≤ m by omega)
    have e := proof_from l.length 60 l j [] true rfl (by omega) (by omega) hn hn hs (by simp)
    rw [List.reverse_nil, List.append_nil] at e
    refine Ev.congr (f := fun k => hash_Proof.j0 k l (j : Int) false) (fun k => ?_) (Ev.step (fun k => ?_) e)
    · unfold hash_Proof.f
      rw [if_neg (by omega), decide_eq_false (by omega)]
    · simp only [hash_Proof.j0]
      rfl
  · rw [if_neg h]
    refine Ev.congr (f := fun k => hash_Proof.j0 k l m true) (fun k => ?_) (Ev.step (f := fun _ => some ([], 8)) (fun k => ?_) (Ev.now _))
    · unfold hash_Proof.f
      by_cases h0 : m < 1
      · rw [if_pos h0]
      · rw [if_neg h0, decide_eq_true (by omega)]
    · simp only [hash_Proof.j0]
      rfl
end Go.Proofs.YtopacnaiedlaaaaDoor.F
end
