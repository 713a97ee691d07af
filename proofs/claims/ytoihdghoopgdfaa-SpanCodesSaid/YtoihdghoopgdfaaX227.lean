-- JOINED BY A PROGRAM OF THIS PLACE (wip/tools/pack.py) out of: SpHs
import Derived.Test.YtoihdghoopgdfaaX25
import Derived.Test.YtoihdghoopgdfaaX28
import Derived.Test.YtoihdghoopgdfaaX210
import Derived.Test.YtoihdghoopgdfaaX214
import Derived.Test.YtoihdghoopgdfaaX219
import Derived.Test.YtoihdghoopgdfaaX221
import Derived.Test.YtoihdghoopgdfaaX223
section
/-
  The program's Root and the document's Root, Leaf, Cut, Same, as the plain text Hs has them (span's part of the hash chapter's plain laws).
-/
namespace Go.Proofs.Ytoihdghoopgdfaa.F
open Go.RowKit Go.Proofs.Ytoihdghoopgdfaa Go.Proofs.YtoihdghoopgdfaaW.PrintWords Go.Proofs.YtoihdghoopgdfaaW.PrintLast Go.Proofs.YtoihdghoopgdfaaW.PrintMore
set_option linter.unusedVariables false
set_option linter.unusedSimpArgs false
def small (s : ByteArray) : Prop := s.size ≤ 1099511627776
theorem small_node (a b : ByteArray) : small (Hs.node a b) := by
  unfold small
  rw [Hs.node_size]
  omega
theorem node_small (a b : ByteArray) (ha : small a) (hb : small b) : hash_Node.f a b = some (Hs.node a b) := node_some a b (by unfold small at ha hb; omega)
def smalls (l : List ByteArray) : Prop := ∀ x ∈ l, small x
theorem smalls_take {l : List ByteArray} (h : smalls l) (k : Nat) : smalls (l.take k) := fun x hx => h x (List.mem_of_mem_take hx)
theorem smalls_drop {l : List ByteArray} (h : smalls l) (k : Nat) : smalls (l.drop k) := fun x hx => h x (List.mem_of_mem_drop hx)
theorem small_32 {x : ByteArray} (h : x.size = 32) : small x := by unfold small; omega
theorem smalls_32 {l : List ByteArray} (h : ∀ x ∈ l, x.size = 32) : smalls l := fun x hx => small_32 (h x hx)
theorem small_root (l : List ByteArray) (h : smalls l) : small (Hs.root l) := by
  by_cases h2 : 2 ≤ l.length
  · rw [Hs.root_many l h2]; exact small_node _ _
  · cases l with
    | nil => rw [Hs.root_nil]; exact small_32 (Sha.sum_size _)
    | cons x r => cases r with
      | nil => rw [Hs.root_one]; exact h x (by simp)
      | cons y r => simp at h2
theorem root_ev (n : Nat) : ∀ (l : List ByteArray), l.length = n → n ≤ 1152921504606846976 → smalls l → Ev (fun k => hash_Root.f k l) (Hs.root l) := by
  induction n using Nat.strongRecOn with
  | ind n ih =>
    intro l hl hn hs
    by_cases h2 : 2 ≤ n
    · have hc := Hs.cut_lt n h2
      have hp := Hs.cut_pos n
      have e1 := ih (Hs.cut n) hc (l.take (Hs.cut n)) (by rw [← hl]; exact Hs.take_len l (by omega)) (by omega) (smalls_take hs _)
      have e2 := ih (n - Hs.cut n) (by omega) (l.drop (Hs.cut n)) (by rw [List.length_drop, hl]) (by omega) (smalls_drop hs _)
      refine Ev.step (f := fun k => (hash_Root.f k (l.take (Hs.cut n))).bind fun t => (hash_Root.f k (l.drop (Hs.cut n))).bind fun t' => (hash_Node.f t t').bind fun t'' => some t'') (fun k => ?_) (Ev.bind e1 (Ev.bind e2 (Ev.congr (fun _ => ?_) (Ev.now _))))
      · simp only [hash_Root.f]
        rw [hl, if_neg (by omega), if_neg (by omega), cut_some n h2 (by omega), Option.bind_some, if_pos (by omega), if_pos (by omega), Int.toNat_natCast]
      · rw [Hs.root_many l (by omega), hl, node_small _ _ (small_root _ (smalls_take hs _)) (small_root _ (smalls_drop hs _))]
        rfl
    · refine Ev.step (f := fun _ => some (Hs.root l)) (fun k => ?_) (Ev.now _)
      simp only [hash_Root.f]
      cases l with
      | nil =>
        rw [if_pos (show (([] : List ByteArray).length : Int) = 0 from rfl), sum_ok [] (by simp) (by simp), Hs.root_nil]
        rfl
      | cons x r => cases r with
        | nil =>
          rw [if_neg (show ¬ (([x] : List ByteArray).length : Int) = 0 by simp), if_pos (show (([x] : List ByteArray).length : Int) = 1 from rfl), if_pos (show 0 < (([x] : List ByteArray).length : Int) by simp), Hs.root_one]
          rfl
        | cons y r => simp at hl; omega
theorem rcut_from (n E : Nat) (hn : n ≤ 2305843009213693952) (h1 : 2 ^ E < n) (h2 : n ≤ 2 * 2 ^ E) (d : Nat) : ∀ e, e + d = E → Ev (fun k => sawyerref15_Cut.l0 k (n : Int) ((2 ^ e : Nat) : Int)) ((2 ^ E : Nat) : Int) := by
  induction d with
  | zero =>
    intro e he
    obtain rfl : e = E := by omega
    refine Ev.step (f := fun _ => some _) (fun k => ?_) (Ev.now _)
    simp only [sawyerref15_Cut.l0]
    rw [if_neg (by unfold wrap64; omega)]
  | succ d ih =>
    intro e he
    have hle : 2 ^ (e + 1) ≤ 2 ^ E := Nat.pow_le_pow_right (by omega) (by omega)
    have hp : 2 ^ (e + 1) = 2 * 2 ^ e := by rw [Nat.pow_succ]; omega
    have hw : wrap64 (2 * ((2 ^ e : Nat) : Int)) = ((2 ^ (e + 1) : Nat) : Int) := by
      rw [hp]
      unfold wrap64
      omega
    refine Ev.step (fun k => ?_) (ih (e + 1) (by omega))
    simp only [sawyerref15_Cut.l0]
    rw [hw, if_pos (by omega)]
theorem rcut_some (n : Nat) (h : 2 ≤ n) (hn : n ≤ 2305843009213693952) : Ev (fun k => sawyerref15_Cut.f k (n : Int)) (Hs.cut n : Int) := by
  have a := Hs.cut_lt n h
  have b := Hs.cut_two n h
  unfold Hs.cut at a b ⊢
  exact rcut_from n _ hn a b _ 0 (Nat.zero_add _)
theorem rleaf_some (l : List Int) (hb : ∀ x ∈ l, 0 ≤ x ∧ x < 256) (h : l.length ≤ 140737488354000) : Ev (fun k => sawyerref15_Leaf.f k l) (Hs.leaf l) := by
  have hok : Sha.ok ([0] ++ l) = true := by
    rw [ok_iff]
    refine ⟨fun x hx => ?_, by simp; omega⟩
    rcases List.mem_append.1 hx with hx | hx
    · rw [List.mem_singleton.1 hx]; omega
    · exact hb x hx
  refine Ev.congr (f := fun k => (sawyerref01_Sum.f k ([0] ++ l)).bind fun t => some t) (fun k => ?_) (Ev.bind (f := fun _ t => some t) (ref_sum _ hok) (Ev.now _))
  unfold sawyerref15_Leaf.f
  rw [Option.bind_some, if_pos (by simp; omega)]
theorem rnode_some (a b : ByteArray) (h : a.size + b.size ≤ 140737488354000) : sawyerref15_Node.f a b = some (Hs.node a b) := if_pos (decide_eq_true h)
theorem same_from (l : List ByteArray) (hl : l.length ≤ 9223372036854775806) (d : Nat) : ∀ i, i + d = l.length → Ev (fun k => sawyerref15_Same.l0 k l l (i : Int)) true := by
  induction d with
  | zero =>
    intro i hi
    refine Ev.step (f := fun _ => some _) (fun k => ?_) (Ev.now _)
    simp only [sawyerref15_Same.l0]
    rw [if_neg (by omega)]
  | succ d ih =>
    intro i hi
    refine Ev.step (fun k => ?_) (ih (i + 1) (by omega))
    simp only [sawyerref15_Same.l0]
    rw [show wrap64 ((i : Int) + 1) = ((i + 1 : Nat) : Int) by unfold wrap64; omega]
    have hlt : i < l.length := by omega
    simp [hlt]
theorem same_some (l : List ByteArray) (hl : l.length ≤ 9223372036854775806) : Ev (fun k => sawyerref15_Same.f k l l) true := by
  have := same_from l hl l.length 0 (by omega)
  simpa [sawyerref15_Same.f] using this
theorem rnode_sm (a b : ByteArray) (ha : small a) (hb : small b) : sawyerref15_Node.f a b = some (Hs.node a b) := rnode_some a b (by unfold small at ha hb; omega)
theorem rroot_ev (n : Nat) : ∀ (l : List ByteArray), l.length = n → n ≤ 1152921504606846976 → smalls l → Ev (fun k => sawyerref15_Root.f k l) (Hs.root l) := by
  induction n using Nat.strongRecOn with
  | ind n ih =>
    intro l hl hn hs
    by_cases h2 : 2 ≤ n
    · have hc := Hs.cut_lt n h2
      have hp := Hs.cut_pos n
      have e0 := rcut_some n h2 (by omega)
      have e1 := ih (Hs.cut n) hc (l.take (Hs.cut n)) (by rw [← hl]; exact Hs.take_len l (by omega)) (by omega) (smalls_take hs _)
      have e2 := ih (n - Hs.cut n) (by omega) (l.drop (Hs.cut n)) (by rw [List.length_drop, hl]) (by omega) (smalls_drop hs _)
      refine Ev.step (f := fun k => (sawyerref15_Cut.f k (n : Int)).bind fun t344 => (if 0 ≤ t344 then (if t344 ≤ (n : Int) then ((sawyerref15_Root.f k (l.take (t344 : Int).toNat)).bind fun t346 => ((sawyerref15_Root.f k (l.drop (t344 : Int).toNat)).bind fun t348 => ((sawyerref15_Node.f t346 t348).bind fun t349 => (some t349)))) else (none)) else (none))) (fun k => ?_) (Ev.bind e0 (Ev.congr (f := fun k => (sawyerref15_Root.f k (l.take (Hs.cut n))).bind fun t346 => ((sawyerref15_Root.f k (l.drop (Hs.cut n))).bind fun t348 => ((sawyerref15_Node.f t346 t348).bind fun t349 => (some t349)))) (fun k => ?_) (Ev.bind e1 (Ev.bind e2 (Ev.congr (fun _ => ?_) (Ev.now _))))))
      · simp only [sawyerref15_Root.f]
        rw [hl, if_neg (by omega), if_neg (by omega)]
      · rw [if_pos (by omega), if_pos (by omega), Int.toNat_natCast]
      · rw [Hs.root_many l (by omega), hl, rnode_sm _ _ (small_root _ (smalls_take hs _)) (small_root _ (smalls_drop hs _))]
        rfl
    · cases l with
      | nil =>
        refine Ev.step (f := fun k => (sawyerref01_Sum.f k ([] : List Int)).bind fun t => some t) (fun k => ?_) (Ev.bind (f := fun _ t => some t) (ref_sum [] (ok_of [] (by simp) (by simp))) (by rw [Hs.root_nil]; exact Ev.now _))
        simp only [sawyerref15_Root.f]
        rw [if_pos (show (([] : List ByteArray).length : Int) = 0 from rfl)]
      | cons x r => cases r with
        | nil =>
          refine Ev.step (f := fun _ => some (Hs.root [x])) (fun k => ?_) (Ev.now _)
          simp only [sawyerref15_Root.f]
          rw [if_neg (show ¬ (([x] : List ByteArray).length : Int) = 0 by simp), if_pos (show (([x] : List ByteArray).length : Int) = 1 from rfl), if_pos (show 0 < (([x] : List ByteArray).length : Int) by simp), Hs.root_one]
          rfl
        | cons y r => simp at hl; omega
end Go.Proofs.Ytoihdghoopgdfaa.F
end
