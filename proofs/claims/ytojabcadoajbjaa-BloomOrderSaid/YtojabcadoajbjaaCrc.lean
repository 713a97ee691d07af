/-
  code.Crc, sawyerref02.Crc: one plain text: crcOf.
-/
import Derived.Test.YtojabcadoajbjaaF1
import Derived.Test.YtojabcadoajbjaaF3
import Derived.Laws.BitsLemmas
import Derived.Laws.Closers25b
namespace Go.Proofs.Ytojabcadoajbjaa
open Go.RowKit Go.Proofs.YtojabcadoajbjaaW.PrintWords Go.Proofs.YtojabcadoajbjaaW.PrintLast Go.Proofs.YtojabcadoajbjaaW.PrintMore
set_option linter.unusedVariables false
set_option linter.unusedSimpArgs false

def crcStep (c : Int) : Int := Go.bits .xor .u32 (c / 2) (Go.bits .and .u32 3988292384 ((-(Go.bits .and .u32 c 1)) % 4294967296))
def crcIter : Nat → Int → Int
  | 0, c => c
  | d + 1, c => crcIter d (crcStep c)
def crcByte (c b : Int) : Int := crcIter 8 (Go.bits .xor .u32 c (b % 4294967296))
def crcOf (l : List Int) : Int := Go.bits .xor .u32 IntKind.u32.max (l.foldl crcByte 4294967295)

theorem crcOf_range (l : List Int) : 0 ≤ crcOf l ∧ crcOf l < 4294967296 := by
  have h1 := bits_lo_u32 .xor IntKind.u32.max (l.foldl crcByte 4294967295)
  have h2 := bits_hi_u32 .xor IntKind.u32.max (l.foldl crcByte 4294967295)
  unfold crcOf
  omega
theorem u32_small (n : Int) (h0 : 0 ≤ n) (h1 : n < 4294967296) : IntKind.u32.wrap n = n := by
  rw [IntKind.wrap_u32]; omega
theorem and1 (c : Int) : Go.bits .and .u32 c 1 = c % 2 := by
  have h127 : (BitVec.ofInt 32 1).toNat = 2 ^ 1 - 1 := by decide
  have key : (BitVec.ofInt 32 c &&& BitVec.ofInt 32 1).toNat = (c % ((2 ^ 32 : Nat) : Int)).toNat % 2 ^ 1 := by
    rw [BitVec.toNat_and, BitVec.toNat_ofInt, h127, Nat.and_two_pow_sub_one_eq_mod]
  show IntKind.u32.wrap ((BitVec.ofInt 32 c &&& BitVec.ofInt 32 1).toNat : Nat) = c % 2
  rw [key, IntKind.wrap_u32]
  omega
theorem xor0 (c : Int) (h0 : 0 ≤ c) (h1 : c < 4294967296) : Go.bits .xor .u32 c 0 = c := by
  have key : (BitVec.ofInt 32 c ^^^ BitVec.ofInt 32 0).toNat = (c % ((2 ^ 32 : Nat) : Int)).toNat := by
    rw [show BitVec.ofInt 32 0 = 0#32 by decide, BitVec.xor_zero, BitVec.toNat_ofInt]
  show IntKind.u32.wrap ((BitVec.ofInt 32 c ^^^ BitVec.ofInt 32 0).toNat : Nat) = c
  rw [key, IntKind.wrap_u32]
  omega
theorem crcStep_ref (c : Int) (h0 : 0 ≤ c) (h1 : c < 4294967296) : (if Int.tmod c 2 = 1 then Go.bits .xor .u32 (IntKind.u32.wrap (Int.tdiv c 2)) 3988292384 else IntKind.u32.wrap (Int.tdiv c 2)) = crcStep c := by
  unfold crcStep
  rw [and1, Int.tdiv_eq_ediv_of_nonneg h0, Int.tmod_eq_emod_of_nonneg h0, u32_small (c / 2) (by omega) (by omega)]
  by_cases h : c % 2 = 1
  · rw [if_pos h, h]
    rfl
  · rw [if_neg h, show c % 2 = 0 by omega]
    exact (xor0 _ (by omega) (by omega)).symm
theorem crcStep_range (c : Int) : 0 ≤ crcStep c ∧ crcStep c < 4294967296 := by
  have h1 := bits_lo_u32 .xor (c / 2) (Go.bits .and .u32 3988292384 ((-(Go.bits .and .u32 c 1)) % 4294967296))
  have h2 := bits_hi_u32 .xor (c / 2) (Go.bits .and .u32 3988292384 ((-(Go.bits .and .u32 c 1)) % 4294967296))
  unfold crcStep
  omega

namespace F
theorem crc_inner (l : List Int) (n j : Int) (r : Int) (d : Nat) : ∀ (i : Nat) (c : Int), i + d = 8 → Ev (fun k => code_Crc.l0 k (crcIter d c) l n (wrap64 (j + 1))) r → Ev (fun k => code_Crc.l1 k c l n j (i : Int)) r := by
  induction d with
  | zero =>
    intro i c hi h
    refine Ev.step (fun k => ?_) h
    simp only [code_Crc.l1]
    rw [if_neg (by omega)]
    rfl
  | succ d ih =>
    intro i c hi h
    refine Ev.step (fun k => ?_) (ih (i + 1) (crcStep c) (by omega) h)
    simp only [code_Crc.l1]
    rw [if_pos (by omega), show wrap64 ((i : Int) + 1) = ((i + 1 : Nat) : Int) by unfold wrap64; omega]
    rfl
theorem crc_from (l : List Int) (hl : l.length ≤ 9000000000000000000) (d : Nat) : ∀ (j : Nat) (c : Int), j + d = l.length → Ev (fun k => code_Crc.l0 k c l (l.length : Int) (j : Int)) (Go.bits .xor .u32 IntKind.u32.max ((l.drop j).foldl crcByte c)) := by
  induction d with
  | zero =>
    intro j c hj
    rw [List.drop_eq_nil_of_le (by omega)]
    refine Ev.step (f := fun _ => some _) (fun k => ?_) (Ev.now _)
    simp only [code_Crc.l0]
    rw [if_neg (by omega)]
    rfl
  | succ d ih =>
    intro j c hj
    have h1 : j < l.length := by omega
    rw [List.drop_eq_getElem_cons h1, List.foldl_cons]
    have r1 : rd l (j : Int) = l[j] := by simp [rd, List.getD_eq_getElem?_getD, h1]
    refine Ev.step (fun k => ?_) (crc_inner l (l.length : Int) (j : Int) _ 8 0 (Go.bits .xor .u32 c (l[j] % 4294967296)) rfl (by
      rw [show wrap64 ((j : Int) + 1) = ((j + 1 : Nat) : Int) by unfold wrap64; omega]
      exact ih (j + 1) _ (by omega)))
    simp only [code_Crc.l0]
    rw [if_pos (by omega), if_pos (by omega), if_pos (by omega), r1]
    rfl
theorem crc_ev (l : List Int) (hl : l.length ≤ 9000000000000000000) : Ev (fun k => code_Crc.f k l) (crcOf l) := by
  have := crc_from l hl l.length 0 4294967295 (by omega)
  simpa [code_Crc.f, crcOf] using this

theorem rcrc_inner (l : List Int) (j : Int) (r : Int) (d : Nat) : ∀ (i : Nat) (c : Int), i + d = 8 → (0 ≤ c ∧ c < 4294967296) → Ev (fun k => sawyerref02_Crc.l0 k l (crcIter d c) (wrap64 (j + 1))) r → Ev (fun k => sawyerref02_Crc.l1 k l c j (i : Int)) r := by
  induction d with
  | zero =>
    intro i c hi hc h
    refine Ev.step (fun k => ?_) h
    simp only [sawyerref02_Crc.l1]
    rw [if_neg (by omega)]
    rfl
  | succ d ih =>
    intro i c hi hc h
    have e := crcStep_ref c hc.1 hc.2
    refine Ev.step (fun k => ?_) (ih (i + 1) (crcStep c) (by omega) (crcStep_range c) h)
    simp only [sawyerref02_Crc.l1]
    rw [if_pos (by omega), show wrap64 ((i : Int) + 1) = ((i + 1 : Nat) : Int) by unfold wrap64; omega, ← e]
    by_cases h2 : Int.tmod c 2 = 1
    · rw [if_pos h2, if_pos h2]
    · rw [if_neg h2, if_neg h2]
theorem rcrc_from (l : List Int) (hl : l.length ≤ 9000000000000000000) (d : Nat) : ∀ (j : Nat) (c : Int), j + d = l.length → Ev (fun k => sawyerref02_Crc.l0 k l c (j : Int)) (Go.bits .xor .u32 IntKind.u32.max ((l.drop j).foldl crcByte c)) := by
  induction d with
  | zero =>
    intro j c hj
    rw [List.drop_eq_nil_of_le (by omega)]
    refine Ev.step (f := fun _ => some _) (fun k => ?_) (Ev.now _)
    simp only [sawyerref02_Crc.l0]
    rw [if_neg (by omega)]
    rfl
  | succ d ih =>
    intro j c hj
    have h1 : j < l.length := by omega
    rw [List.drop_eq_getElem_cons h1, List.foldl_cons]
    have r1 : rd l (j : Int) = l[j] := by simp [rd, List.getD_eq_getElem?_getD, h1]
    refine Ev.step (fun k => ?_) (rcrc_inner l (j : Int) _ 8 0 (Go.bits .xor .u32 c (l[j] % 4294967296)) rfl ⟨bits_lo_u32 _ _ _, by have := bits_hi_u32 .xor c (l[j] % 4294967296); omega⟩ (by
      rw [show wrap64 ((j : Int) + 1) = ((j + 1 : Nat) : Int) by unfold wrap64; omega]
      exact ih (j + 1) _ (by omega)))
    simp only [sawyerref02_Crc.l0]
    rw [if_pos (by omega), if_pos (by omega), r1]
    rfl
theorem rcrc_ev (l : List Int) (hl : l.length ≤ 9000000000000000000) : Ev (fun k => sawyerref02_Crc.f k l) (crcOf l) := by
  have := rcrc_from l hl l.length 0 4294967295 (by omega)
  simpa [sawyerref02_Crc.f, crcOf] using this
end F
end Go.Proofs.Ytojabcadoajbjaa
