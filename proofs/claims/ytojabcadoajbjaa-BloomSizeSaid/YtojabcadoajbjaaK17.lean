-- JOINED BY A PROGRAM OF THIS PLACE (wip/tools/pack.py) out of: BloomRef
import Derived.Test.YtojabcadoajbjaaK9
import Derived.Test.YtojabcadoajbjaaK10
import Derived.Test.YtojabcadoajbjaaK15
section
/-
  sawyerref07: places, Build, Has, plainly; awake.
-/
namespace Go.Proofs.Ytojabcadoajbjaa
open Go.RowKit Go.Proofs.YtojabcadoajbjaaW.PrintWords Go.Proofs.YtojabcadoajbjaaW.PrintLast Go.Proofs.YtojabcadoajbjaaW.PrintMore
set_option linter.unusedVariables false
set_option linter.unusedSimpArgs false
theorem hsum_eq (h s : Int) (k : Nat) (hh : 0 ≤ h ∧ h < 4294967296) (hk : k < 6) : hsum h s k = (h + (((k : Nat) : Int) % 4294967296) * s) % 4294967296 := by
  have : k = 0 ∨ k = 1 ∨ k = 2 ∨ k = 3 ∨ k = 4 ∨ k = 5 := by omega
  rcases this with rfl | rfl | rfl | rfl | rfl | rfl <;> simp only [hsum] <;> omega
theorem place_eq (h s bits : Int) (k : Nat) (hh : 0 ≤ h ∧ h < 4294967296) (hk : k < 6) : place h s bits k = ((h + (((k : Nat) : Int) % 4294967296) * s) % 4294967296) % bits := by
  have hr := hsum_range h s k hh
  unfold place
  rw [show wrap64 (hsum h s k) = hsum h s k by unfold wrap64; omega, Int.tmod_eq_emod_of_nonneg hr.1, ← hsum_eq h s k hh hk]
theorem mask_bits : ∀ r : Fin 8, shl .u8 1 ((r.val : Nat) : Int) = IntKind.u8.wrap (2 ^ min r.val 8) := by decide +kernel
theorem mask_shl (p : Int) (hp : 0 ≤ p) : shl .u8 1 (Int.tmod p 8) = mask p := by
  have h0 := Int.tmod_nonneg 8 hp
  have h1 := Int.tmod_lt_of_pos p (show (0 : Int) < 8 by decide)
  have := mask_bits ⟨(Int.tmod p 8).toNat, by omega⟩
  rw [show (((Int.tmod p 8).toNat : Nat) : Int) = Int.tmod p 8 by omega] at this
  exact this
theorem miss_bits : ∀ x : Fin 256, ∀ r : Fin 8, (Go.bits .and .u8 (shr .u8 ((x.val : Nat) : Int) ((r.val : Nat) : Int)) 1 = 0) ↔ (Go.bits .and .u8 ((x.val : Nat) : Int) (IntKind.u8.wrap (2 ^ min r.val 8)) == 0) = true := by decide +kernel
theorem miss_shr (x p : Int) (hx : 0 ≤ x ∧ x < 256) (hp : 0 ≤ p) : (Go.bits .and .u8 (shr .u8 x (Int.tmod p 8)) 1 = 0) ↔ (Go.bits .and .u8 x (mask p) == 0) = true := by
  have h0 := Int.tmod_nonneg 8 hp
  have h1 := Int.tmod_lt_of_pos p (show (0 : Int) < 8 by decide)
  have := miss_bits ⟨x.toNat, by omega⟩ ⟨(Int.tmod p 8).toNat, by omega⟩
  rw [show (((Int.tmod p 8).toNat : Nat) : Int) = Int.tmod p 8 by omega, show ((x.toNat : Nat) : Int) = x by omega] at this
  exact this
/-- the places of a key -/
def pls (key : List Int) (bits : Int) : Nat → List Int
  | 0 => []
  | k + 1 => pls key bits k ++ [keyAt key bits k]
theorem pls_length (key : List Int) (bits : Int) (k : Nat) : (pls key bits k).length = k := by
  induction k with
  | zero => rfl
  | succ k ih => rw [pls, List.length_append, ih]; rfl
theorem pls_at (key : List Int) (bits : Int) (k i : Nat) (hi : i < k) : rd (pls key bits k) (i : Int) = keyAt key bits i := by
  induction k with
  | zero => omega
  | succ k ih =>
    have hl := pls_length key bits k
    unfold rd at ih ⊢
    rw [Int.toNat_natCast] at ih ⊢
    rw [pls]
    by_cases e : i = k
    · subst e
      rw [List.getD_eq_getElem?_getD, List.getElem?_append_right (by omega), hl, Nat.sub_self]
      rfl
    · rw [List.getD_eq_getElem?_getD, List.getElem?_append_left (by omega), ← List.getD_eq_getElem?_getD]
      exact ih (by omega)
namespace F
theorem rplaces_from (key : List Int) (bits : Int) (hb : 0 < bits) (d : Nat) : ∀ i : Nat, i + d = 6 → Ev (fun k => sawyerref07_places.l0 k bits (crcOf key) (c1u (crcOf (key ++ [1]))) (pls key bits i) (i : Int)) (pls key bits 6) := by
  induction d with
  | zero =>
    intro i hi
    obtain rfl : i = 6 := by omega
    refine Ev.step (f := fun _ => some _) (fun k => ?_) (Ev.now _)
    simp only [sawyerref07_places.l0]
    rw [if_neg (by omega)]
  | succ d ih =>
    intro i hi
    refine Ev.step (fun k => ?_) (ih (i + 1) (by omega))
    simp only [sawyerref07_places.l0]
    rw [if_pos (by omega), if_neg (by omega), if_pos (by rw [pls_length]; omega), show wrap64 ((i : Int) + 1) = ((i + 1 : Nat) : Int) by unfold wrap64; omega, pls, keyAt, place_eq _ _ _ _ (crcOf_range key) (by omega)]
theorem rplaces_ev (key : List Int) (bits : Int) (hb : 0 < bits) (hl : key.length ≤ 140737488354000) : Ev (fun k => sawyerref07_places.f k key bits) (pls key bits 6) := by
  refine Ev.congr (fun k => rfl) (Ev.bind (rcrc_ev key (by omega)) ?_)
  have h1 : ([] : List Int).length + key.length < 140737488355328 := by simp; omega
  have h2 : key.length < 140737488355328 := by omega
  simp only [Option.bind_some, if_pos h1, List.nil_append, if_pos h2]
  exact Ev.bind (f := fun n t134 => sawyerref07_places.l0 n bits (crcOf key) (Go.bits .or .u32 t134 1) [] 0) (rcrc_ev (key ++ [1]) (by simp; omega)) (rplaces_from key bits hb 6 0 rfl)
theorem keyAt_nonneg (key : List Int) (bits : Int) (k : Nat) : 0 ≤ keyAt key bits k := place_nonneg _ _ _ _ (crcOf_range key)
theorem keyAt_lt (key : List Int) (bits : Int) (k : Nat) (hb : 0 < bits) : keyAt key bits k < bits := place_lt _ _ _ _ hb
theorem keyAt_div (key : List Int) (n : Nat) (k : Nat) (hn : 0 < n) (hn2 : n ≤ 281474976710656) : 0 ≤ Int.tdiv (keyAt key (8 * (n : Int)) k) 8 ∧ Int.tdiv (keyAt key (8 * (n : Int)) k) 8 < (n : Int) ∧ wrap64 (Int.tdiv (keyAt key (8 * (n : Int)) k) 8) = Int.tdiv (keyAt key (8 * (n : Int)) k) 8 := by
  have h0 := keyAt_nonneg key (8 * (n : Int)) k
  have h1 := keyAt_lt key (8 * (n : Int)) k (by omega)
  rw [Int.tdiv_eq_ediv_of_nonneg h0]
  unfold wrap64
  omega
theorem rhas_from (f key : List Int) (hf : 0 < f.length) (hf2 : f.length ≤ 281474976710656) (hb : ∀ x ∈ f, 0 ≤ x ∧ x < 256) (d : Nat) : ∀ i : Nat, i + d = 6 →
    Ev (fun k => sawyerref07_Has.l0 k f (pls key (8 * (f.length : Int)) 6) (i : Int)) (!((List.range' i d).any fun k => miss f (keyAt key (8 * (f.length : Int)) k))) := by
  induction d with
  | zero =>
    intro i hi
    refine Ev.step (f := fun _ => some _) (fun k => ?_) (Ev.now _)
    simp only [sawyerref07_Has.l0]
    rw [if_neg (by rw [pls_length]; omega)]
    rfl
  | succ d ih =>
    intro i hi
    obtain ⟨q0, q1, q2⟩ := keyAt_div key f.length i hf hf2
    have p0 := keyAt_nonneg key (8 * (f.length : Int)) i
    have hx : 0 ≤ rd f (Int.tdiv (keyAt key (8 * (f.length : Int)) i) 8) ∧ rd f (Int.tdiv (keyAt key (8 * (f.length : Int)) i) 8) < 256 := by
      unfold rd
      rw [List.getD_eq_getElem?_getD, List.getElem?_eq_getElem (by omega)]
      exact hb _ (List.getElem_mem _)
    have hm := miss_shr _ _ hx p0
    rw [List.range'_succ, List.any_cons]
    cases hmi : miss f (keyAt key (8 * (f.length : Int)) i) with
    | true =>
      refine Ev.step (f := fun _ => some false) (fun k => ?_) (Ev.now _)
      simp only [sawyerref07_Has.l0]
      rw [if_pos (by rw [pls_length]; omega), if_pos (by omega), pls_at _ _ _ _ (by omega), q2, if_pos q0, if_pos q1, if_pos (Int.tmod_nonneg _ p0), if_pos (hm.2 hmi)]
    | false =>
      refine Ev.step (fun k => ?_) (ih (i + 1) (by omega))
      simp only [sawyerref07_Has.l0]
      rw [if_pos (by rw [pls_length]; omega), if_pos (by omega), pls_at _ _ _ _ (by omega), q2, if_pos q0, if_pos q1, if_pos (Int.tmod_nonneg _ p0), if_neg (fun e => by have := hm.1 e; unfold miss at hmi; rw [this] at hmi; cases hmi), show wrap64 ((i : Int) + 1) = ((i + 1 : Nat) : Int) by unfold wrap64; omega]
theorem rhas_ev (f key : List Int) (hf2 : f.length ≤ 281474976710656) (hl : key.length ≤ 140737488354000) (hb : ∀ x ∈ f, 0 ≤ x ∧ x < 256) : Ev (fun k => sawyerref07_Has.f k f key) (hasB f key) := by
  unfold hasB
  by_cases h0 : f.length = 0
  · rw [if_pos h0]
    exact Ev.congr (f := fun _ => some true) (fun k => by simp only [sawyerref07_Has.f]; rw [if_pos (by omega)]) (Ev.now _)
  · rw [if_neg h0]
    have hw : wrap64 (8 * (f.length : Int)) = 8 * (f.length : Int) := by unfold wrap64; omega
    rw [List.range_eq_range']
    refine Ev.congr (fun k => ?_) (Ev.bind (f := fun n t158 => sawyerref07_Has.l0 n f t158 0) (rplaces_ev key (8 * (f.length : Int)) (by omega) hl) (rhas_from f key (by omega) hf2 hb 6 0 rfl))
    simp only [sawyerref07_Has.f]
    rw [if_neg (by omega), hw]
theorem rbuild_inner (keys : List (List Int)) (n : Nat) (hn : 0 < n) (hn2 : n ≤ 281474976710656) (key row : List Int) (hrow : row.length = n) (j : Nat) (R : List Int) (d : Nat) : ∀ i : Nat, i + d = 6 →
    Ev (fun k => sawyerref07_Build.l0 k keys (n : Int) (setKey row (crcOf key) (c1u (crcOf (key ++ [1]))) (8 * (n : Int)) 6) (wrap64 ((j : Int) + 1))) R →
    Ev (fun k => sawyerref07_Build.l1 k keys (n : Int) (setKey row (crcOf key) (c1u (crcOf (key ++ [1]))) (8 * (n : Int)) i) (j : Int) (pls key (8 * (n : Int)) 6) (i : Int)) R := by
  induction d with
  | zero =>
    intro i hi h
    obtain rfl : i = 6 := by omega
    refine Ev.step (fun k => ?_) h
    simp only [sawyerref07_Build.l1]
    rw [if_neg (by rw [pls_length]; omega)]
  | succ d ih =>
    intro i hi h
    obtain ⟨q0, q1, q2⟩ := keyAt_div key n i hn hn2
    have p0 := keyAt_nonneg key (8 * (n : Int)) i
    refine Ev.step (fun k => ?_) (ih (i + 1) (by omega) h)
    simp only [sawyerref07_Build.l1]
    rw [if_pos (by rw [pls_length]; omega), if_pos (by omega), pls_at _ _ _ _ (by omega), q2, if_pos q0, if_pos (by rw [setKey_length, hrow]; exact q1), if_pos (Int.tmod_nonneg _ p0), mask_shl _ p0, show wrap64 ((i : Int) + 1) = ((i + 1 : Nat) : Int) by unfold wrap64; omega]
    rfl
theorem rbuild_from (keys : List (List Int)) (hks : ∀ r ∈ keys, r.length ≤ 140737488354000) (hkl : keys.length ≤ 9000000000000000000) (n : Nat) (hn : 0 < n) (hn2 : n ≤ 281474976710656) (d : Nat) : ∀ (j : Nat) (row : List Int), row.length = n → j + d = keys.length →
    Ev (fun k => sawyerref07_Build.l0 k keys (n : Int) row (j : Int)) (setAll crcOf (8 * (n : Int)) row (keys.drop j)) := by
  induction d with
  | zero =>
    intro j row hrow hj
    rw [List.drop_eq_nil_of_le (by omega)]
    refine Ev.step (f := fun _ => some _) (fun k => ?_) (Ev.now _)
    simp only [sawyerref07_Build.l0]
    rw [if_neg (by omega)]
    rfl
  | succ d ih =>
    intro j row hrow hj
    have h1 : j < keys.length := by omega
    have r1 : rd_L1 keys (j : Int) = keys[j] := by simp [rd_L1, List.getD_eq_getElem?_getD, h1]
    have hw : wrap64 (8 * (n : Int)) = 8 * (n : Int) := by unfold wrap64; omega
    rw [List.drop_eq_getElem_cons h1]
    refine Ev.step (f := fun k => (sawyerref07_places.f k keys[j] (8 * (n : Int))).bind fun t => sawyerref07_Build.l1 k keys (n : Int) row (j : Int) t 0) (fun k => ?_) (Ev.bind (rplaces_ev keys[j] (8 * (n : Int)) (by omega) (hks _ (List.getElem_mem h1))) (rbuild_inner keys n hn hn2 keys[j] row hrow j _ 6 0 rfl (by
      rw [show wrap64 ((j : Int) + 1) = ((j + 1 : Nat) : Int) by unfold wrap64; omega]
      exact ih (j + 1) _ (by rw [setKey_length]; exact hrow) (by omega))))
    simp only [sawyerref07_Build.l0]
    rw [if_pos (by omega), if_pos (by omega), r1, hw]
theorem rbuild_ev (keys : List (List Int)) (hks : ∀ r ∈ keys, r.length ≤ 140737488354000) (hkl : keys.length ≤ 5864062014700) : Ev (fun k => sawyerref07_Build.f k keys) (buildB keys) := by
  have hs : mx 8 (wrap64 (Int.tdiv (wrap64 ((wrap64 (10 * (keys.length : Int))) + 7)) 8)) = (sizeOf_ keys.length : Int) := by
    rw [show wrap64 (10 * (keys.length : Int)) = 10 * (keys.length : Int) by unfold wrap64; omega, show wrap64 (10 * (keys.length : Int) + 7) = 10 * (keys.length : Int) + 7 by unfold wrap64; omega, Int.tdiv_eq_ediv_of_nonneg (by omega)]
    rw [show wrap64 ((10 * (keys.length : Int) + 7) / 8) = (10 * (keys.length : Int) + 7) / 8 by unfold wrap64; omega]
    unfold mx sizeOf_
    split <;> omega
  have hsz : 8 ≤ sizeOf_ keys.length ∧ sizeOf_ keys.length ≤ 281474976710656 := by unfold sizeOf_; omega
  have := rbuild_from keys hks (by omega) (sizeOf_ keys.length) (by omega) hsz.2 keys.length 0 (List.replicate (sizeOf_ keys.length) 0) List.length_replicate (by omega)
  refine Ev.congr (fun k => ?_) this
  simp only [sawyerref07_Build.f, hs, Int.toNat_natCast]
  rw [if_pos (by omega), if_pos hsz.2]
  rfl
end F
end Go.Proofs.Ytojabcadoajbjaa
end
