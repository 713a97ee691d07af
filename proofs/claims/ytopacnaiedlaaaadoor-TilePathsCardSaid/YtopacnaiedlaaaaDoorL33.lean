-- JOINED BY A PROGRAM OF THIS PLACE (wip/tools/pack.py) out of: TPlain
import Derived.Test.YtopacnaiedlaaaaDoorL10
import Derived.Test.YtopacnaiedlaaaaDoorL13
import Derived.Test.YtopacnaiedlaaaaDoorL18
import Derived.Test.YtopacnaiedlaaaaDoorL26
import Derived.Test.YtopacnaiedlaaaaDoorL30
section
/-
  tile.New and tile.Cover, and the document's, as plain lists of pairs of numbers.
-/
namespace Go.Proofs.YtopacnaiedlaaaaDoor.F
open Go.RowKit Go.Proofs.YtopacnaiedlaaaaDoor Go.Proofs.YtopacnaiedlaaaaDoorW.PrintWords Go.Proofs.YtopacnaiedlaaaaDoorW.PrintLast Go.Proofs.YtopacnaiedlaaaaDoorW.PrintMore
set_option linter.unusedVariables false
set_option linter.unusedSimpArgs false
abbrev P2 := Nat × Nat
def e29 (p : P2) : S29 := ⟨(p.1 : Int), (p.2 : Int)⟩
def m29 (l : List P2) : List S29 := l.map e29
theorem m29_len (l : List P2) : (m29 l).length = l.length := List.length_map _
theorem m29_snoc (l : List P2) (p : P2) : m29 l ++ [e29 p] = m29 (l ++ [p]) := by simp [m29]
/-- how many ones stand at the end -/
def ones : Nat → Nat → Nat
  | 0, _ => 0
  | f + 1, n => if n % 2 = 1 then ones f (n / 2) + 1 else 0
theorem ones_le : ∀ f n, ones f n ≤ f
  | 0, _ => Nat.le_refl _
  | f + 1, n => by
    unfold ones
    have := ones_le f (n / 2)
    split <;> omega
def news (n : Nat) : List P2 := (List.range (ones 64 n + 1)).map fun l => (l, n / 2 ^ l)
def newR (s : Int) : List P2 × Int := if 0 ≤ s ∧ s < 1099511627776 then (news s.toNat, 0) else ([], 8)
def cov : Nat → Nat → Nat → List P2
  | 0, _, _ => []
  | f + 1, at_, n => if 2 ^ f ≤ n then (f, at_ / 2 ^ f) :: cov f (at_ + 2 ^ f) (n - 2 ^ f) else cov f at_ n
def covR (lo hi : Int) : List P2 × Int := if 0 ≤ lo ∧ lo < hi ∧ hi ≤ 1099511627776 ∧ lo.toNat % 2 ^ bitLen ((hi - lo).toNat - 1) = 0 then (cov 41 lo.toNat (hi - lo).toNat, 0) else ([], 8)
theorem cov_len : ∀ f a n, (cov f a n).length ≤ f
  | 0, _, _ => Nat.le_refl _
  | f + 1, a, n => by
    unfold cov
    have h1 := cov_len f (a + 2 ^ f) (n - 2 ^ f)
    have h2 := cov_len f a n
    split
    · rw [List.length_cons]; omega
    · omega
theorem cov_none : ∀ f a, cov f a 0 = []
  | 0, _ => rfl
  | f + 1, a => by
    unfold cov
    rw [if_neg (by have := Nat.two_pow_pos f; omega)]
    exact cov_none f a
theorem cov_up : ∀ (d f a n : Nat), n < 2 ^ f → cov (f + d) a n = cov f a n
  | 0, f, a, n, h => rfl
  | d + 1, f, a, n, h => by
    rw [show f + (d + 1) = (f + d) + 1 by omega, cov, if_neg (by have := Nat.pow_le_pow_right (n := 2) (by omega) (show f ≤ f + d by omega); omega)]
    exact cov_up d f a n h
theorem cov_top (f F a n : Nat) (h1 : 2 ^ f ≤ n) (h2 : n < 2 ^ (f + 1)) (hF : f + 1 ≤ F) : cov F a n = (f, a / 2 ^ f) :: cov f (a + 2 ^ f) (n - 2 ^ f) := by
  obtain ⟨d, rfl⟩ : ∃ d, F = (f + 1) + d := ⟨F - (f + 1), by omega⟩
  rw [cov_up d (f + 1) a n h2, cov, if_pos h1]
theorem wr64 (x : Int) (h : -9223372036854775808 ≤ x ∧ x ≤ 9223372036854775807) : wrap64 x = x := by unfold wrap64; omega
theorem wu64 (x : Int) (h : 0 ≤ x ∧ x ≤ 18446744073709551615) : IntKind.u64.wrap x = x := IntWalk.u64_in _ h
theorem pow_le40 (f : Nat) (h : f ≤ 40) : 2 ^ f ≤ 1099511627776 := Nat.pow_le_pow_right (n := 2) (by omega) h
theorem shlu_one (e : Nat) (he : e ≤ 62) : shl .u64 1 (e : Int) = ((2 ^ e : Nat) : Int) := by
  have h : ∀ j : Fin 63, shl .u64 1 ((j.val : Nat) : Int) = ((2 ^ j.val : Nat) : Int) := by decide +kernel
  exact h ⟨e, by omega⟩
theorem shr_nat (x e : Nat) (he : e ≤ 64) : shr .i64 (x : Int) (e : Int) = ((x / 2 ^ e : Nat) : Int) := by
  unfold shr
  rw [Int.toNat_natCast, show IntKind.i64.bits = 64 from rfl, Nat.min_eq_left he, Int.natCast_ediv, Int.natCast_pow]
  rfl
theorem and_mask (n b : Nat) (hn : n < 9223372036854775808) (hb : b ≤ 62) : Go.bits .and .i64 (n : Int) ((2 ^ b - 1 : Nat) : Int) = ((n % 2 ^ b : Nat) : Int) := by
  have hp := Nat.pow_le_pow_right (n := 2) (by omega) hb
  rw [(bits_nat .i64 63 (by decide) (fun n h0 h1 => by rw [IntKind.wrap_i64]; omega) n (2 ^ b - 1) (by simpa using hn) (by omega)).1, Nat.and_two_pow_sub_one_eq_mod]
theorem bitLen_pos {n : Nat} (h : n ≠ 0) : 1 ≤ bitLen n := by
  unfold bitLen
  rw [if_neg h]
  omega
theorem bitLen_le {n b : Nat} (h : n < 2 ^ b) : bitLen n ≤ b := by
  rcases Nat.lt_or_ge b (bitLen n) with hb | hb
  · exfalso
    have h0 : n ≠ 0 := by
      rintro rfl
      simp [bitLen] at hb
    have h1 := (bitLen_spec n).2 h0
    have h2 := Nat.pow_le_pow_right (n := 2) (by omega) (show b ≤ bitLen n - 1 by omega)
    omega
  · exact hb
theorem len_some (x : Nat) (h : x ≤ 18446744073709551615) : bits_Len.f (x : Int) = some (bitLen x : Int) := by
  unfold bits_Len.f
  rw [if_pos (by omega), Int.toNat_natCast]
/-! ### Cover, the program's -/
theorem cover_from (n : Nat) : ∀ (lo : Nat) (out : List P2), n ≤ 1099511627776 → lo + n ≤ 1099511627776 → out.length + bitLen n ≤ 100 → Ev (fun k => tile_Cover.l0 k (lo : Int) (m29 out) (n : Int)) (m29 (out ++ cov 41 lo n), 0) := by
  induction n using Nat.strongRecOn with
  | ind n ih =>
    intro lo out hn hlo hout
    by_cases h0 : n = 0
    · subst h0
      refine Ev.step (f := fun _ => some _) (fun k => ?_) (Ev.now _)
      simp only [tile_Cover.l0]
      rw [if_neg (by omega), cov_none, List.append_nil]
    · have hb1 := bitLen_pos h0
      obtain ⟨f, hf⟩ : ∃ f, bitLen n = f + 1 := ⟨bitLen n - 1, by omega⟩
      have s1 := (bitLen_spec n).1
      have s2 := (bitLen_spec n).2 h0
      rw [hf] at s1 s2
      rw [Nat.add_sub_cancel] at s2
      have hf40 : f ≤ 40 := by
        have := bitLen_le (n := n) (b := 41) (by have : (2 : Nat) ^ 41 = 2199023255552 := rfl; omega)
        omega
      have hp := pow_le40 f hf40
      have hpp := Nat.two_pow_pos f
      have hp2 : 2 ^ (f + 1) = 2 * 2 ^ f := by rw [Nat.pow_succ]; omega
      have hrec := ih (n - 2 ^ f) (by omega) (lo + 2 ^ f) (out ++ [(f, lo / 2 ^ f)]) (by omega) (by omega) (by
        have := bitLen_le (n := n - 2 ^ f) (b := f) (by omega)
        rw [List.length_append, List.length_singleton]
        omega)
      rw [cov_top f 41 lo n s2 s1 (by omega)]
      have hcov : cov 41 (lo + 2 ^ f) (n - 2 ^ f) = cov f (lo + 2 ^ f) (n - 2 ^ f) := by
        obtain ⟨d, hd⟩ : ∃ d, 41 = f + d := ⟨41 - f, by omega⟩
        rw [hd]
        exact cov_up d f _ _ (by omega)
      rw [hcov, List.append_assoc, List.singleton_append] at hrec
      refine Ev.step (fun k => ?_) hrec
      simp only [tile_Cover.l0]
      have hw : wrap64 ((bitLen n : Int) - 1) = (f : Int) := by rw [hf, wr64 _ (by omega)]; omega
      rw [if_pos (by omega), len_some n (by omega), Option.bind_some, hw, if_pos (by omega), m29_len, if_pos (by omega), shl_one f (by omega), shlu_one f (by omega), shr_nat lo f (by omega), wr64 _ (by omega), wu64 _ (by omega)]
      congr 1
      · rw [← m29_snoc]; rfl
      · omega
theorem cover_ev (lo hi : Int) (h1 : -9223372036854775808 ≤ lo ∧ lo ≤ 9223372036854775807) (h2 : -9223372036854775808 ≤ hi ∧ hi ≤ 9223372036854775807) : Ev (fun k => tile_Cover.f k lo hi) (m29 (covR lo hi).1, (covR lo hi).2) := by
  have bad : ∀ x y, Ev (fun k => tile_Cover.j0 k x y true) (m29 ([] : List P2), (8 : Int)) := fun x y => by
    refine Ev.step (f := fun _ => some _) (fun k => ?_) (Ev.now _)
    simp only [tile_Cover.j0, if_true]
    rfl
  unfold covR
  by_cases c1 : lo < 0
  · rw [if_neg (by omega)]
    refine Ev.congr (fun k => ?_) (bad lo hi)
    unfold tile_Cover.f
    rw [if_pos c1]
  by_cases c2 : lo ≥ hi
  · rw [if_neg (by omega)]
    refine Ev.congr (fun k => ?_) (bad lo hi)
    unfold tile_Cover.f
    rw [if_neg c1, if_pos c2]
  by_cases c3 : hi > 1099511627776
  · rw [if_neg (by omega)]
    refine Ev.congr (fun k => ?_) (bad lo hi)
    unfold tile_Cover.f
    rw [if_neg c1, if_neg c2, if_pos c3]
  obtain ⟨a, rfl⟩ := Int.eq_ofNat_of_zero_le (show 0 ≤ lo by omega)
  obtain ⟨n, hn⟩ : ∃ n : Nat, hi - (a : Int) = (n : Int) := ⟨(hi - a).toNat, by omega⟩
  have hnn : (hi - (a : Int)).toNat = n := by omega
  rw [hnn, Int.toNat_natCast]
  have hb40 : bitLen (n - 1) ≤ 40 := bitLen_le (by have : (2 : Nat) ^ 40 = 1099511627776 := rfl; omega)
  have hpp := Nat.two_pow_pos (bitLen (n - 1))
  have hp40 := pow_le40 _ hb40
  have hmask : Go.bits .and .i64 (a : Int) (wrap64 ((shl .i64 1 (bitLen (n - 1) : Int)) - 1)) = ((a % 2 ^ bitLen (n - 1) : Nat) : Int) := by
    rw [shl_one _ (by omega), wr64 _ (by omega), show ((2 ^ bitLen (n - 1) : Nat) : Int) - 1 = ((2 ^ bitLen (n - 1) - 1 : Nat) : Int) by omega]
    exact and_mask a _ (by omega) (by omega)
  have hw1 : IntKind.u64.wrap (wrap64 ((wrap64 (hi - (a : Int))) - 1)) = ((n - 1 : Nat) : Int) := by
    rw [hn, wr64 (n : Int) (by omega), wr64 ((n : Int) - 1) (by omega), wu64 ((n : Int) - 1) (by omega)]
    omega
  have hw2 : IntKind.u64.wrap (wrap64 (hi - (a : Int))) = (n : Int) := by
    rw [hn, wr64 (n : Int) (by omega), wu64 (n : Int) (by omega)]
  have hstep : ∀ k, tile_Cover.f k (a : Int) hi = tile_Cover.j0 k (a : Int) hi (((a % 2 ^ bitLen (n - 1) : Nat) : Int) != 0) := fun k => by
    unfold tile_Cover.f
    rw [if_neg c1, if_neg c2, if_neg c3, hw1, len_some _ (by omega), Option.bind_some, if_pos (by omega), hmask]
  by_cases c4 : a % 2 ^ bitLen (n - 1) = 0
  · rw [if_pos ⟨by omega, by omega, by omega, c4⟩]
    have hc := cover_from n a [] (by omega) (by omega) (by
      have := bitLen_le (n := n) (b := 41) (by have : (2 : Nat) ^ 41 = 2199023255552 := rfl; omega)
      simp; omega)
    rw [List.nil_append] at hc
    refine Ev.congr hstep (Ev.step (fun k => ?_) hc)
    simp only [tile_Cover.j0]
    rw [c4, hw2]
    rfl
  · rw [if_neg (fun h => c4 h.2.2.2)]
    refine Ev.congr (fun k => ?_) (bad (a : Int) hi)
    rw [hstep k, show ((((a % 2 ^ bitLen (n - 1) : Nat) : Int) != 0) = true) from bne_iff_ne.2 (fun h => c4 (by exact_mod_cast h))]
/-! ### Cover, the document's -/
/-! ### New, the program's -/
theorem xor_max (n : Nat) (hn : n < 18446744073709551616) : Go.bits .xor .u64 IntKind.u64.max (n : Int) = ((18446744073709551615 - n : Nat) : Int) := by
  have h1 : (BitVec.ofInt 64 (18446744073709551615 : Int)) = BitVec.allOnes 64 := by decide
  have h2 : (BitVec.ofInt 64 (n : Int)).toNat = n := by
    rw [BitVec.ofInt_natCast, BitVec.toNat_ofNat]; exact Nat.mod_eq_of_lt (by omega)
  show IntKind.u64.wrap ((BitVec.ofInt 64 (18446744073709551615 : Int) ^^^ BitVec.ofInt 64 (n : Int)).toNat : Int) = _
  rw [h1, BitVec.allOnes_xor, BitVec.toNat_not, h2, wu64 _ (by omega)]
theorem ctz_ones : ∀ (f d n : Nat), n < 2 ^ (f + d) → Lib.ctzFrom f (2 ^ (f + d) - 1 - n) = ones f n
  | 0, d, n, h => rfl
  | f + 1, d, n, h => by
    have hp : 2 ^ (f + 1 + d) = 2 * 2 ^ (f + d) := by rw [show f + 1 + d = (f + d) + 1 by omega, Nat.pow_succ]; omega
    unfold Lib.ctzFrom ones
    rw [hp] at h ⊢
    have hr := ctz_ones f d (n / 2) (by omega)
    by_cases hn : n % 2 = 1
    · rw [if_neg (by omega), if_pos hn, show (2 * 2 ^ (f + d) - 1 - n) / 2 = 2 ^ (f + d) - 1 - n / 2 by omega, hr, Nat.add_comm]
    · rw [if_pos (by omega), if_neg hn]
theorem tz_some (n : Nat) (h : n ≤ 1099511627776) : bits_TrailingZeros.f (Go.bits .xor .u64 IntKind.u64.max (IntKind.u64.wrap (n : Int))) = some ((ones 64 n : Nat) : Int) := by
  rw [wu64 _ (by omega), xor_max n (by omega)]
  unfold bits_TrailingZeros.f
  rw [if_pos (by omega), Int.toNat_natCast]
  unfold Lib.ctz
  rw [if_neg (by omega)]
  have := ctz_ones 64 0 n (by omega)
  rw [← this]
theorem new_from (n c : Nat) (hn : n ≤ 1099511627776) (hc : c ≤ 64) (d : Nat) : ∀ j, j + d = c + 1 → Ev (fun k => tile_New.l0 k (n : Int) (m29 ((List.range j).map fun l => (l, n / 2 ^ l))) ((c : Int) + 1) (j : Int)) (m29 ((List.range (c + 1)).map fun l => (l, n / 2 ^ l)), 0) := by
  induction d with
  | zero =>
    intro j hj
    obtain rfl : j = c + 1 := by omega
    refine Ev.step (f := fun _ => some _) (fun k => ?_) (Ev.now _)
    simp only [tile_New.l0]
    rw [if_neg (by omega)]
  | succ d ih =>
    intro j hj
    refine Ev.step (fun k => ?_) (ih (j + 1) (by omega))
    simp only [tile_New.l0]
    rw [if_pos (by omega), if_pos (by omega), m29_len, List.length_map, List.length_range, if_pos (by omega), shr_nat n j (by omega), wr64 _ (by omega), List.range_succ, List.map_append, List.map_singleton, ← m29_snoc]
    rfl
theorem new_ev (s : Int) (h1 : -9223372036854775808 ≤ s ∧ s ≤ 9223372036854775807) : Ev (fun k => tile_New.f k s) (m29 (newR s).1, (newR s).2) := by
  have bad : ∀ x, Ev (fun k => tile_New.j0 k x true) (m29 ([] : List P2), (8 : Int)) := fun x => by
    refine Ev.step (f := fun _ => some _) (fun k => ?_) (Ev.now _)
    simp only [tile_New.j0, if_true]
    rfl
  unfold newR
  by_cases c1 : s < 0
  · rw [if_neg (by omega)]
    refine Ev.congr (fun k => ?_) (bad s)
    unfold tile_New.f
    rw [if_pos c1]
  by_cases c2 : s ≥ 1099511627776
  · rw [if_neg (by omega)]
    refine Ev.congr (fun k => ?_) (bad s)
    unfold tile_New.f
    rw [if_neg c1, decide_eq_true c2]
  obtain ⟨n, rfl⟩ := Int.eq_ofNat_of_zero_le (show 0 ≤ s by omega)
  rw [if_pos ⟨by omega, by omega⟩, Int.toNat_natCast]
  have ho := ones_le 64 n
  have hn := new_from n (ones 64 n) (by omega) ho (ones 64 n + 1) 0 (by omega)
  refine Ev.congr (fun k => ?_) (Ev.step (g := fun k => tile_New.j0 k (n : Int) false) (fun k => ?_) hn)
  · unfold tile_New.f
    rw [if_neg c1, decide_eq_false c2]
  · simp only [tile_New.j0]
    rw [if_neg (by decide), tz_some n (by omega), Option.bind_some, wr64 _ (by omega)]
    rfl
/-! ### New, the document's -/
/-! ### rows turned and compared -/
theorem get29 (l : List P2) (i : Nat) (h : i < l.length) : rd_T29 (m29 l) (i : Int) = e29 (l.getD i (0, 0)) := by
  unfold rd_T29 m29
  rw [Int.toNat_natCast, List.getD_eq_getElem?_getD, List.getElem?_map, List.getElem?_eq_getElem h, List.getD_eq_getElem?_getD, List.getElem?_eq_getElem h]
  rfl
end Go.Proofs.YtopacnaiedlaaaaDoor.F
end
