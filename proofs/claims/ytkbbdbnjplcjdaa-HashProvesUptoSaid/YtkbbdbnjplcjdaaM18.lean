-- JOINED BY A PROGRAM OF THIS PLACE (wip/tools/pack.py) out of: HsRefProg
import Derived.Test.YtkbbdbnjplcjdaaM0
import Derived.Test.YtkbbdbnjplcjdaaM2
import Derived.Test.YtkbbdbnjplcjdaaM9
import Derived.Test.YtkbbdbnjplcjdaaM16
section
/-
  The document's Root, Path, Proof, Sides, Climb, CheckPath, as the plain text Hs has them.
-/
namespace Go.Proofs.Ytkbbdbnjplcjdaa.F
open Go.RowKit Go.Proofs.Ytkbbdbnjplcjdaa Go.Proofs.YtkbbdbnjplcjdaaW.PrintWords Go.Proofs.YtkbbdbnjplcjdaaW.PrintLast Go.Proofs.YtkbbdbnjplcjdaaW.PrintMore
set_option linter.unusedVariables false
set_option linter.unusedSimpArgs false
theorem rnode_sm (a b : ByteArray) (ha : small a) (hb : small b) : sawyerref15_Node.f a b = some (Hs.node a b) := rnode_some a b (by unfold small at ha hb; omega)
theorem rroot_ev (n : Nat) : ∀ (l : List ByteArray), l.length = n → n ≤ 1152921504606846976 → smalls l → Ev (fun k => sawyerref15_Root.f k l) (Hs.root l) := by
  induction n using Nat.strongRecOn with
  | ind n ih =>
    intro l hl hn hs
    by_cases h2 : 2 ≤ n
    · have hc := Hs.cut_lt n h2
      have hp := Hs.cut_pos n
      have e0 := rcut_some n h2 (by omega)
      have e1 := ih (Hs.cut n) hc (l.take (Hs.cut n)) (by rw [← hl]; exact Hs.take_len l (by omega)) (by omega) (smalls_take hs _)
      have e2 := ih (n - Hs.cut n) (by omega) (l.drop (Hs.cut n)) (by rw [List.length_drop, hl]) (by omega) (smalls_drop hs _)
      refine Ev.step (f := fun k => (sawyerref15_Cut.f k (n : Int)).bind fun t344 => (if 0 ≤ t344 then (if t344 ≤ (n : Int) then ((sawyerref15_Root.f k (l.take (t344 : Int).toNat)).bind fun t346 => ((sawyerref15_Root.f k (l.drop (t344 : Int).toNat)).bind fun t348 => ((sawyerref15_Node.f t346 t348).bind fun t349 => (some t349)))) else (none)) else (none))) (fun k => ?_) (Ev.bind e0 (Ev.congr (f := fun k => (sawyerref15_Root.f k (l.take (Hs.cut n))).bind fun t346 => ((sawyerref15_Root.f k (l.drop (Hs.cut n))).bind fun t348 => ((sawyerref15_Node.f t346 t348).bind fun t349 => (some t349)))) (fun k => ?_) (Ev.bind e1 (Ev.bind e2 (Ev.congr (fun _ => ?_) (Ev.now _))))))
      · simp only [sawyerref15_Root.f]
        rw [hl, if_neg (by omega), if_neg (by omega)]
      · rw [if_pos (by omega), if_pos (by omega), Int.toNat_natCast]
      · rw [Hs.root_many l (by omega), hl, rnode_sm _ _ (small_root _ (smalls_take hs _)) (small_root _ (smalls_drop hs _))]
        rfl
    · cases l with
      | nil =>
        refine Ev.step (f := fun k => (sawyerref01_Sum.f k ([] : List Int)).bind fun t => some t) (fun k => ?_) (Ev.bind (f := fun _ t => some t) (ref_sum [] (ok_of [] (by simp) (by simp))) (by rw [Hs.root_nil]; exact Ev.now _))
        simp only [sawyerref15_Root.f]
        rw [if_pos (show (([] : List ByteArray).length : Int) = 0 from rfl)]
      | cons x r => cases r with
        | nil =>
          refine Ev.step (f := fun _ => some (Hs.root [x])) (fun k => ?_) (Ev.now _)
          simp only [sawyerref15_Root.f]
          rw [if_neg (show ¬ (([x] : List ByteArray).length : Int) = 0 by simp), if_pos (show (([x] : List ByteArray).length : Int) = 1 from rfl), if_pos (show 0 < (([x] : List ByteArray).length : Int) by simp), Hs.root_one]
          rfl
        | cons y r => simp at hl; omega
theorem rpath_j (l : List ByteArray) (i : Nat) (hi : i < l.length) (R : List ByteArray × Int) (h : Ev (fun k => sawyerref15_Path.j0 k l (i : Int) false) R) : Ev (fun k => sawyerref15_Path.f k l (i : Int)) R := by
  refine Ev.step (fun k => ?_) h
  simp only [sawyerref15_Path.f]
  rw [if_neg (by omega), decide_eq_false (by omega)]
theorem rpath_from (n : Nat) : ∀ (e : Nat) (l : List ByteArray) (i : Nat), l.length = n → i < n → n ≤ 2 ^ e → e ≤ 60 → smalls l → Ev (fun k => sawyerref15_Path.f k l (i : Int)) (Hs.path l i, 0) := by
  induction n using Nat.strongRecOn with
  | ind n ih =>
    intro e l i hl hi he he6 hs
    have h60 : (2 : Nat) ^ e ≤ 2 ^ 60 := Nat.pow_le_pow_right (by omega) he6
    have hn : n ≤ 1152921504606846976 := Nat.le_trans he h60
    apply rpath_j l i (by omega)
    have hlen : (Hs.path l i).length ≤ 60 := by rw [Hs.path_length]; exact sides_60 _ _ (by omega)
    by_cases h2 : 2 ≤ n
    · have hc := Hs.cut_lt n h2
      have hp := Hs.cut_pos n
      have e0 := rcut_some n h2 (by omega)
      cases e with
      | zero => simp at he; omega
      | succ e =>
        obtain ⟨he1, he2⟩ := cut_half n e h2 he
        by_cases hk : i < Hs.cut n
        · have e1 := ih (Hs.cut n) hc e (l.take (Hs.cut n)) i (by rw [← hl]; exact Hs.take_len l (by omega)) hk he1 (by omega) (smalls_take hs _)
          have e2 := rroot_ev (n - Hs.cut n) (l.drop (Hs.cut n)) (by rw [List.length_drop, hl]) (by omega) (smalls_drop hs _)
          rw [Hs.path_left l i (by omega) (by rw [hl]; exact hk), hl, List.length_append, List.length_singleton] at hlen
          rw [Hs.path_left l i (by omega) (by rw [hl]; exact hk), hl]
          refine Ev.step (fun k => ?_) (Ev.bind (f := fun k t357 => (if (i : Int) < t357 then (if 0 ≤ t357 then (if t357 ≤ (l.length : Int) then ((sawyerref15_Path.f k (l.take (t357 : Int).toNat) (i : Int)).bind fun bt359 => ((sawyerref15_Root.f k (l.drop (t357 : Int).toNat)).bind fun t364 => (if bt359.1.length < 8796093022208 then (some ((bt359.1 ++ [t364]), 0)) else (none)))) else (none)) else (none)) else (if 0 ≤ t357 then (if t357 ≤ (l.length : Int) then ((sawyerref15_Path.f k (l.drop (t357 : Int).toNat) (wrap64 ((i : Int) - t357))).bind fun bt369 => ((sawyerref15_Root.f k (l.take (t357 : Int).toNat)).bind fun t374 => (if bt369.1.length < 8796093022208 then (some ((bt369.1 ++ [t374]), 0)) else (none)))) else (none)) else (none)))) e0 (Ev.congr (f := fun k => (sawyerref15_Path.f k (l.take (Hs.cut n)) (i : Int)).bind fun bt359 => ((sawyerref15_Root.f k (l.drop (Hs.cut n))).bind fun t364 => (if bt359.1.length < 8796093022208 then (some ((bt359.1 ++ [t364]), 0)) else (none)))) (fun k => ?_) (Ev.bind e1 (Ev.bind e2 (Ev.congr (fun _ => ?_) (Ev.now _))))))
          · simp only [sawyerref15_Path.j0]
            rw [if_neg (by simp), if_neg (by omega), hl]
          · rw [if_pos (by omega), if_pos (by omega), if_pos (by omega), Int.toNat_natCast]
          · rw [if_pos (show (Hs.path (l.take (Hs.cut n)) i).length < 8796093022208 by omega)]
        · have e1 := ih (n - Hs.cut n) (by omega) e (l.drop (Hs.cut n)) (i - Hs.cut n) (by rw [List.length_drop, hl]) (by omega) he2 (by omega) (smalls_drop hs _)
          have e2 := rroot_ev (Hs.cut n) (l.take (Hs.cut n)) (by rw [← hl]; exact Hs.take_len l (by omega)) (by omega) (smalls_take hs _)
          rw [Hs.path_right l i (by omega) (by rw [hl]; omega), hl, List.length_append, List.length_singleton] at hlen
          rw [Hs.path_right l i (by omega) (by rw [hl]; omega), hl]
          refine Ev.step (fun k => ?_) (Ev.bind (f := fun k t357 => (if (i : Int) < t357 then (if 0 ≤ t357 then (if t357 ≤ (l.length : Int) then ((sawyerref15_Path.f k (l.take (t357 : Int).toNat) (i : Int)).bind fun bt359 => ((sawyerref15_Root.f k (l.drop (t357 : Int).toNat)).bind fun t364 => (if bt359.1.length < 8796093022208 then (some ((bt359.1 ++ [t364]), 0)) else (none)))) else (none)) else (none)) else (if 0 ≤ t357 then (if t357 ≤ (l.length : Int) then ((sawyerref15_Path.f k (l.drop (t357 : Int).toNat) (wrap64 ((i : Int) - t357))).bind fun bt369 => ((sawyerref15_Root.f k (l.take (t357 : Int).toNat)).bind fun t374 => (if bt369.1.length < 8796093022208 then (some ((bt369.1 ++ [t374]), 0)) else (none)))) else (none)) else (none)))) e0 (Ev.congr (f := fun k => (sawyerref15_Path.f k (l.drop (Hs.cut n)) ((i - Hs.cut n : Nat) : Int)).bind fun bt359 => ((sawyerref15_Root.f k (l.take (Hs.cut n))).bind fun t364 => (if bt359.1.length < 8796093022208 then (some ((bt359.1 ++ [t364]), 0)) else (none)))) (fun k => ?_) (Ev.bind e1 (Ev.bind e2 (Ev.congr (fun _ => ?_) (Ev.now _))))))
          · simp only [sawyerref15_Path.j0]
            rw [if_neg (by simp), if_neg (by omega), hl]
          · rw [if_neg (by omega), if_pos (by omega), if_pos (by omega), Int.toNat_natCast, show wrap64 ((i : Int) - (Hs.cut n : Int)) = ((i - Hs.cut n : Nat) : Int) by unfold wrap64; omega]
          · rw [if_pos (show (Hs.path (l.drop (Hs.cut n)) (i - Hs.cut n)).length < 8796093022208 by omega)]
    · rw [Hs.path_few l i (by omega)]
      refine Ev.step (f := fun _ => some ([], 0)) (fun k => ?_) (Ev.now _)
      simp only [sawyerref15_Path.j0]
      rw [if_neg (by simp), if_pos (by omega)]
theorem rpath_ev (l : List ByteArray) (i : Int) (hn : l.length ≤ 1152921504606846976) (hs : smalls l) : Ev (fun k => sawyerref15_Path.f k l i) (pathR l i) := by
  unfold pathR
  by_cases h : 0 ≤ i ∧ i < (l.length : Int)
  · rw [if_pos h]
    obtain ⟨j, rfl⟩ := Int.eq_ofNat_of_zero_le h.1
    exact rpath_from l.length 60 l j rfl (by omega) hn (by omega) hs
  · rw [if_neg h]
    refine Ev.step (f := fun k => sawyerref15_Path.j0 k l i true) (fun k => ?_) (Ev.step (f := fun _ => some ([], 8)) (fun k => ?_) (Ev.now _))
    · simp only [sawyerref15_Path.f]
      by_cases h0 : i < 0
      · rw [if_pos h0]
      · rw [if_neg h0, decide_eq_true (by omega)]
    · simp only [sawyerref15_Path.j0]
      rfl
theorem sub_le (n : Nat) : ∀ (e m : Nat) (l : List ByteArray) (own : Bool), l.length = n → n ≤ 2 ^ e → (Hs.sub m l own).length ≤ e + 1 := by
  induction n using Nat.strongRecOn with
  | ind n ih =>
    intro e m l own hl he
    by_cases hm : m = n
    · subst hm
      subst hl
      rw [Hs.sub_all]
      cases own <;> simp
    · by_cases h2 : 2 ≤ n
      · have hc := Hs.cut_lt n h2
        have hp := Hs.cut_pos n
        cases e with
        | zero => simp at he; omega
        | succ e =>
          obtain ⟨he1, he2⟩ := cut_half n e h2 he
          by_cases hk : m ≤ Hs.cut n
          · rw [Hs.sub_left m l own (by omega) (by omega) (by rw [hl]; exact hk), List.length_append, List.length_singleton, hl]
            have := ih (Hs.cut n) hc e m (l.take (Hs.cut n)) own (by rw [← hl]; exact Hs.take_len l (by omega)) he1
            omega
          · rw [Hs.sub_right m l own (by omega) (by omega) (by rw [hl]; omega), List.length_append, List.length_singleton, hl]
            have := ih (n - Hs.cut n) (by omega) e (m - Hs.cut n) (l.drop (Hs.cut n)) false (by rw [List.length_drop, hl]) he2
            omega
      · rw [Hs.sub, if_neg (by omega), dif_neg (by omega)]; simp
theorem rsub_from (n : Nat) : ∀ (e : Nat) (l : List ByteArray) (m : Nat) (own : Bool), l.length = n → 1 ≤ m → m ≤ n → n ≤ 2 ^ e → e ≤ 60 → smalls l → Ev (fun k => sawyerref15_sub.f k (m : Int) l own) (Hs.sub m l own) := by
  induction n using Nat.strongRecOn with
  | ind n ih =>
    intro e l m own hl h1 hm he he6 hs
    have h60 : (2 : Nat) ^ e ≤ 2 ^ 60 := Nat.pow_le_pow_right (by omega) he6
    have hn : n ≤ 1152921504606846976 := Nat.le_trans he h60
    have hlen := sub_le n e m l own hl he
    by_cases hmn : m = n
    · subst hmn
      subst hl
      rw [Hs.sub_all]
      cases own with
      | true =>
        refine Ev.step (f := fun _ => some []) (fun k => ?_) (Ev.now _)
        simp only [sawyerref15_sub.f]
        rw [if_pos trivial, if_pos trivial]
      | false =>
        refine Ev.step (f := fun k => (sawyerref15_Root.f k l).bind fun t => some [t]) (fun k => ?_) (Ev.bind (f := fun _ t => some [t]) (rroot_ev l.length l rfl hn hs) (Ev.now _))
        simp only [sawyerref15_sub.f]
        rw [if_pos trivial, if_neg (by simp)]
    · have h2 : 2 ≤ n := by omega
      have hc := Hs.cut_lt n h2
      have hp := Hs.cut_pos n
      have e0 := rcut_some n h2 (by omega)
      cases e with
      | zero => simp at he; omega
      | succ e =>
        obtain ⟨he1, he2⟩ := cut_half n e h2 he
        by_cases hk : m ≤ Hs.cut n
        · have e1 := ih (Hs.cut n) hc e (l.take (Hs.cut n)) m own (by rw [← hl]; exact Hs.take_len l (by omega)) h1 hk he1 (by omega) (smalls_take hs _)
          have e2 := rroot_ev (n - Hs.cut n) (l.drop (Hs.cut n)) (by rw [List.length_drop, hl]) (by omega) (smalls_drop hs _)
          rw [Hs.sub_left m l own (by omega) (by omega) (by rw [hl]; exact hk), hl, List.length_append, List.length_singleton] at hlen
          rw [Hs.sub_left m l own (by omega) (by omega) (by rw [hl]; exact hk), hl]
          refine Ev.step (fun k => ?_) (Ev.bind (f := fun k t382 => (if (m : Int) ≤ t382 then (if 0 ≤ t382 then (if t382 ≤ (l.length : Int) then ((sawyerref15_sub.f k (m : Int) (l.take (t382 : Int).toNat) own).bind fun t384 => ((sawyerref15_Root.f k (l.drop (t382 : Int).toNat)).bind fun t388 => (if t384.length < 8796093022208 then (some (t384 ++ [t388])) else (none)))) else (none)) else (none)) else (if 0 ≤ t382 then (if t382 ≤ (l.length : Int) then ((sawyerref15_sub.f k (wrap64 ((m : Int) - t382)) (l.drop (t382 : Int).toNat) false).bind fun t393 => ((sawyerref15_Root.f k (l.take (t382 : Int).toNat)).bind fun t397 => (if t393.length < 8796093022208 then (some (t393 ++ [t397])) else (none)))) else (none)) else (none)))) e0 (Ev.congr (f := fun k => (sawyerref15_sub.f k (m : Int) (l.take (Hs.cut n)) own).bind fun t384 => ((sawyerref15_Root.f k (l.drop (Hs.cut n))).bind fun t388 => (if t384.length < 8796093022208 then (some (t384 ++ [t388])) else (none)))) (fun k => ?_) (Ev.bind e1 (Ev.bind e2 (Ev.congr (fun _ => ?_) (Ev.now _))))))
          · simp only [sawyerref15_sub.f]
            rw [if_neg (by omega), hl]
          · rw [if_pos (by omega), if_pos (by omega), if_pos (by omega), Int.toNat_natCast]
          · rw [if_pos (by omega)]
        · have e1 := ih (n - Hs.cut n) (by omega) e (l.drop (Hs.cut n)) (m - Hs.cut n) false (by rw [List.length_drop, hl]) (by omega) (by omega) he2 (by omega) (smalls_drop hs _)
          have e2 := rroot_ev (Hs.cut n) (l.take (Hs.cut n)) (by rw [← hl]; exact Hs.take_len l (by omega)) (by omega) (smalls_take hs _)
          rw [Hs.sub_right m l own (by omega) (by omega) (by rw [hl]; omega), hl, List.length_append, List.length_singleton] at hlen
          rw [Hs.sub_right m l own (by omega) (by omega) (by rw [hl]; omega), hl]
          refine Ev.step (fun k => ?_) (Ev.bind (f := fun k t382 => (if (m : Int) ≤ t382 then (if 0 ≤ t382 then (if t382 ≤ (l.length : Int) then ((sawyerref15_sub.f k (m : Int) (l.take (t382 : Int).toNat) own).bind fun t384 => ((sawyerref15_Root.f k (l.drop (t382 : Int).toNat)).bind fun t388 => (if t384.length < 8796093022208 then (some (t384 ++ [t388])) else (none)))) else (none)) else (none)) else (if 0 ≤ t382 then (if t382 ≤ (l.length : Int) then ((sawyerref15_sub.f k (wrap64 ((m : Int) - t382)) (l.drop (t382 : Int).toNat) false).bind fun t393 => ((sawyerref15_Root.f k (l.take (t382 : Int).toNat)).bind fun t397 => (if t393.length < 8796093022208 then (some (t393 ++ [t397])) else (none)))) else (none)) else (none)))) e0 (Ev.congr (f := fun k => (sawyerref15_sub.f k ((m - Hs.cut n : Nat) : Int) (l.drop (Hs.cut n)) false).bind fun t384 => ((sawyerref15_Root.f k (l.take (Hs.cut n))).bind fun t388 => (if t384.length < 8796093022208 then (some (t384 ++ [t388])) else (none)))) (fun k => ?_) (Ev.bind e1 (Ev.bind e2 (Ev.congr (fun _ => ?_) (Ev.now _))))))
          · simp only [sawyerref15_sub.f]
            rw [if_neg (by omega), hl]
          · rw [if_neg (by omega), if_pos (by omega), if_pos (by omega), Int.toNat_natCast, show wrap64 ((m : Int) - (Hs.cut n : Int)) = ((m - Hs.cut n : Nat) : Int) by unfold wrap64; omega]
          · rw [if_pos (by omega)]
theorem rproof_ev (l : List ByteArray) (m : Int) (hn : l.length ≤ 1152921504606846976) (hs : smalls l) : Ev (fun k => sawyerref15_Proof.f k l m) (proofR l m) := by
  unfold proofR
  by_cases h : 1 ≤ m ∧ m ≤ (l.length : Int)
  · rw [if_pos h]
    obtain ⟨j, rfl⟩ := Int.eq_ofNat_of_zero_le (show 0 ≤ m by omega)
    have e := rsub_from l.length 60 l j true rfl (by omega) (by omega) hn (by omega) hs
    refine Ev.congr (fun k => ?_) (Ev.bind (f := fun _ t => some (t, 0)) e (Ev.now _))
    unfold sawyerref15_Proof.f
    rw [if_neg (by omega), if_neg (by omega)]
  · rw [if_neg h]
    refine Ev.congr (fun k => ?_) (Ev.now _)
    unfold sawyerref15_Proof.f
    by_cases h0 : m < 1
    · rw [if_pos h0]
    · rw [if_neg h0, if_pos (by omega)]
end Go.Proofs.Ytkbbdbnjplcjdaa.F
end
