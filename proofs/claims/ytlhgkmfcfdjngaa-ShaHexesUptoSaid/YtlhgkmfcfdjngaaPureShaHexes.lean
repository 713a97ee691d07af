/-
  The plain statement of ShaHexes, for texts of at most 1048576 bytes: the program's digits are the document's, two for each byte.
-/
import Derived.Test.YtlhgkmfcfdjngaaF9
import Derived.Test.YtlhgkmfcfdjngaaRef01Hex
import Derived.Laws.Strings
namespace Go.Proofs.Ytlhgkmfcfdjngaa.Pure
open Go.RowKit Go.Proofs.Ytlhgkmfcfdjngaa Go.Proofs.Ytlhgkmfcfdjngaa.F Go.Proofs.YtlhgkmfcfdjngaaW.PrintWords Go.Proofs.YtlhgkmfcfdjngaaW.PrintLast
set_option linter.unusedVariables false
set_option linter.unusedSimpArgs false

theorem f15 : strOfNums (Sha.hex (bytesOf (⟨#[15]⟩ : ByteArray))) = (⟨#[48, 102]⟩ : ByteArray) := by decide +kernel
theorem s15 : (⟨#[15]⟩ : ByteArray).size = 1 := rfl
theorem h15 : sha_Hex.f (⟨#[15]⟩ : ByteArray) = some (⟨#[48, 102]⟩ : ByteArray) := by
  unfold sha_Hex.f
  rw [if_pos (by rw [s15]; omega), f15]
theorem l15 : ((⟨#[48, 102]⟩ : ByteArray).toList == ([48, 102] : List UInt8)) = true := by
  rw [ByteArray.toList_eq]
  rfl

theorem size_hex (s : ByteArray) : (strOfNums (Sha.hex (bytesOf s))).size = 2 * s.size := by
  unfold strOfNums
  show (List.toArray _).size = _
  rw [List.size_toArray, List.length_map, Sha.hex_length, bytesOf_length]

theorem hex_some (s : ByteArray) (h : 2 * s.size < 140737488355328) : sha_Hex.f s = some (strOfNums (Sha.hex (bytesOf s))) := by
  unfold sha_Hex.f
  rw [if_pos h]

theorem w2 (n : Nat) (h : n ≤ 1048576) : ((2 * n : Nat) : Int) = wrap64 (2 * (n : Int)) := by
  unfold wrap64
  omega

theorem ShaHexes (s : ByteArray) (hs : s.size ≤ 140737488351232) (hb : s.size ≤ 1048576) : ∃ k, sawyerlaw01_ShaHexes.f k s = some true := by
  have h2 : 2 * s.size < 140737488355328 := by omega
  obtain ⟨k, hk⟩ := (ref_hex s h2).rounds
  refine ⟨k, ?_⟩
  unfold sawyerlaw01_ShaHexes.f
  rw [h15, hex_some s h2, hk, Option.bind_some, Option.bind_some, Option.bind_some, if_pos (by rw [size_hex]; exact w2 _ hb), if_pos rfl, l15]
end Go.Proofs.Ytlhgkmfcfdjngaa.Pure
