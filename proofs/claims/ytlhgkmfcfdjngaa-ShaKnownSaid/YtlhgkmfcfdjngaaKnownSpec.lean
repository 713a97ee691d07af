/-
  The known answers: the plain hash of "abc", of nothing, the plain code of a known key (the kernel computes them); noughts behind a key say nothing.
-/
import Derived.Test.YtlhgkmfcfdjngaaMac
import Derived.Laws.Strings
namespace Go.Proofs.Ytlhgkmfcfdjngaa
open Go.RowKit Go.Proofs.YtlhgkmfcfdjngaaW.PrintWords
set_option linter.unusedVariables false
set_option linter.unusedSimpArgs false
namespace Known
def hexA : ByteArray := ⟨#[98, 97, 55, 56, 49, 54, 98, 102, 56, 102, 48, 49, 99, 102, 101, 97, 52, 49, 52, 49, 52, 48, 100, 101, 53, 100, 97, 101, 50, 50, 50, 51, 98, 48, 48, 51, 54, 49, 97, 51, 57, 54, 49, 55, 55, 97, 57, 99, 98, 52, 49, 48, 102, 102, 54, 49, 102, 50, 48, 48, 49, 53, 97, 100]⟩
def hexB : ByteArray := ⟨#[101, 51, 98, 48, 99, 52, 52, 50, 57, 56, 102, 99, 49, 99, 49, 52, 57, 97, 102, 98, 102, 52, 99, 56, 57, 57, 54, 102, 98, 57, 50, 52, 50, 55, 97, 101, 52, 49, 101, 52, 54, 52, 57, 98, 57, 51, 52, 99, 97, 52, 57, 53, 57, 57, 49, 98, 55, 56, 53, 50, 98, 56, 53, 53]⟩
def hexC : ByteArray := ⟨#[53, 98, 100, 99, 99, 49, 52, 54, 98, 102, 54, 48, 55, 53, 52, 101, 54, 97, 48, 52, 50, 52, 50, 54, 48, 56, 57, 53, 55, 53, 99, 55, 53, 97, 48, 48, 51, 102, 48, 56, 57, 100, 50, 55, 51, 57, 56, 51, 57, 100, 101, 99, 53, 56, 98, 57, 54, 52, 101, 99, 51, 56, 52, 51]⟩
def jefe : List Int := [74, 101, 102, 101]
def what : List Int := [119, 104, 97, 116, 32, 100, 111, 32, 121, 97, 32, 119, 97, 110, 116, 32, 102, 111, 114, 32, 110, 111, 116, 104, 105, 110, 103, 63]

theorem okA : Sha.ok [97, 98, 99] = true := Sha.ok_of _ (by decide) (by decide)
theorem okB : Sha.ok [] = true := Sha.ok_of _ (by decide) (by decide)
theorem okC : Sha.macOk jefe what = true := (Sha.macOk_iff _ _).2 ⟨Sha.ok_of _ (by decide) (by decide), Sha.ok_of _ (by decide) (by decide), by decide⟩
theorem isA : strOfNums (Sha.hex (bytesOf (Sha.sum [97, 98, 99]))) = hexA := by decide +kernel
theorem isB : strOfNums (Sha.hex (bytesOf (Sha.sum []))) = hexB := by decide +kernel
theorem isC : strOfNums (Sha.hex (bytesOf (Sha.mac jefe what))) = hexC := by decide +kernel
theorem hex_of (d r : ByteArray) (hd : d.size = 32) (h : strOfNums (Sha.hex (bytesOf d)) = r) : sha_Hex.f d = some r := by
  unfold sha_Hex.f
  rw [if_pos (by omega), h]
theorem A : ∃ d, sha_Sum.f [97, 98, 99] = some d ∧ sha_Hex.f d = some hexA := ⟨_, sum_some _ okA, hex_of _ _ (Sha.sum_size _) isA⟩
theorem B : ∃ d, sha_Sum.f [] = some d ∧ sha_Hex.f d = some hexB := ⟨_, sum_some _ okB, hex_of _ _ (Sha.sum_size _) isB⟩
theorem C : ∃ d, sha_Mac.f jefe what = some d ∧ sha_Hex.f d = some hexC := ⟨_, if_pos okC, hex_of _ _ (Sha.sum_size _) isC⟩

theorem key_rep (m : Nat) (h : m ≤ 64) : Sha.key64 (List.replicate m 0) = List.replicate 64 0 := by
  unfold Sha.key64 Sha.key1
  rw [if_neg (by simp; omega), List.length_replicate, List.replicate_append_replicate, show m + (64 - m) = 64 by omega]
theorem mac_rep (m : Nat) (h : m ≤ 64) (b : List Int) : Sha.mac (List.replicate m 0) b = Sha.mac (List.replicate 64 0) b := by
  unfold Sha.mac Sha.inn Sha.outr
  rw [key_rep m h, key_rep 64 (Nat.le_refl _)]
theorem okR (m : Nat) (h : m ≤ 64) : Sha.macOk (List.replicate m 0) [120] = true := by
  refine (Sha.macOk_iff _ _).2 ⟨Sha.ok_of _ (fun x hx => ?_) (by simp; omega), Sha.ok_of _ (by decide) (by decide), by decide⟩
  rw [(List.mem_replicate.1 hx).2]
  omega
theorem D (m : Nat) (h : m ≤ 64) : ∃ d, sha_Mac.f (List.replicate m 0) [120] = some d ∧ sha_Mac.f (List.replicate 64 0) [120] = some d :=
  ⟨_, (if_pos (okR m h)).trans (by rw [mac_rep m h]), if_pos (okR 64 (Nat.le_refl _))⟩
theorem and63 (a : Int) : 0 ≤ bits BinOp.and IntKind.i64 a 63 ∧ bits BinOp.and IntKind.i64 a 63 ≤ 63 := by
  have h : ((BitVec.ofInt IntKind.i64.bits a) &&& (BitVec.ofInt IntKind.i64.bits 63)).toNat ≤ 63 := by
    rw [BitVec.toNat_and]
    exact Nat.le_trans Nat.and_le_right (show (BitVec.ofInt 64 63).toNat ≤ 63 by decide)
  show 0 ≤ IntKind.i64.wrap ((((BitVec.ofInt IntKind.i64.bits a) &&& (BitVec.ofInt IntKind.i64.bits 63)).toNat : Nat) : Int) ∧ IntKind.i64.wrap ((((BitVec.ofInt IntKind.i64.bits a) &&& (BitVec.ofInt IntKind.i64.bits 63)).toNat : Nat) : Int) ≤ 63
  generalize ((BitVec.ofInt IntKind.i64.bits a) &&& (BitVec.ofInt IntKind.i64.bits 63)).toNat = n at h
  rw [IntKind.wrap_i64]
  omega
theorem litA : (hexA.toList == ([98, 97, 55, 56, 49, 54, 98, 102, 56, 102, 48, 49, 99, 102, 101, 97, 52, 49, 52, 49, 52, 48, 100, 101, 53, 100, 97, 101, 50, 50, 50, 51, 98, 48, 48, 51, 54, 49, 97, 51, 57, 54, 49, 55, 55, 97, 57, 99, 98, 52, 49, 48, 102, 102, 54, 49, 102, 50, 48, 48, 49, 53, 97, 100] : List UInt8)) = true := by
  rw [ByteArray.toList_eq]
  rfl
theorem litB : (hexB.toList == ([101, 51, 98, 48, 99, 52, 52, 50, 57, 56, 102, 99, 49, 99, 49, 52, 57, 97, 102, 98, 102, 52, 99, 56, 57, 57, 54, 102, 98, 57, 50, 52, 50, 55, 97, 101, 52, 49, 101, 52, 54, 52, 57, 98, 57, 51, 52, 99, 97, 52, 57, 53, 57, 57, 49, 98, 55, 56, 53, 50, 98, 56, 53, 53] : List UInt8)) = true := by
  rw [ByteArray.toList_eq]
  rfl
theorem litC : (hexC.toList == ([53, 98, 100, 99, 99, 49, 52, 54, 98, 102, 54, 48, 55, 53, 52, 101, 54, 97, 48, 52, 50, 52, 50, 54, 48, 56, 57, 53, 55, 53, 99, 55, 53, 97, 48, 48, 51, 102, 48, 56, 57, 100, 50, 55, 51, 57, 56, 51, 57, 100, 101, 99, 53, 56, 98, 57, 54, 52, 101, 99, 51, 56, 52, 51] : List UInt8)) = true := by
  rw [ByteArray.toList_eq]
  rfl
end Known
end Go.Proofs.Ytlhgkmfcfdjngaa
