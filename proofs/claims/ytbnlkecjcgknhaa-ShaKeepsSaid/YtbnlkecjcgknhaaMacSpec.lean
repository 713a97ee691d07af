/-
  The code under a key, as plain lists.
-/
import Derived.Test.YtbnlkecjcgknhaaSha
import Derived.Test.YtbnlkecjcgknhaaBytes
namespace Go.Proofs.Ytbnlkecjcgknhaa.Sha
open Go.RowKit Go.Proofs.Ytbnlkecjcgknhaa Go.Proofs.YtbnlkecjcgknhaaW.PrintWords
set_option linter.unusedVariables false
set_option linter.unusedSimpArgs false

def x8 (c x : Int) : Int := Go.bits .xor .u8 x c
/-- the key as it is used: its hash where it is longer than 64 bytes -/
def key1 (k : List Int) : List Int := if k.length > 64 then bytesOf (sum k) else k
/-- with noughts behind it -/
def key64 (k : List Int) : List Int := key1 k ++ List.replicate (64 - (key1 k).length) 0
def inn (k : List Int) : List Int := (key64 k).map (x8 54)
def outr (k : List Int) : List Int := (key64 k).map (x8 92)
def mac (k b : List Int) : ByteArray := sum (outr k ++ bytesOf (sum (inn k ++ b)))
def macOk (k b : List Int) : Bool := ok k && ok b && decide (b.length ≤ 140737488354000)

theorem key1_length (k : List Int) : (key1 k).length ≤ 64 := by
  unfold key1
  split
  · rw [bytesOf_length, sum_size]; omega
  · omega
theorem key64_length (k : List Int) : (key64 k).length = 64 := by
  have := key1_length k
  simp [key64]
  omega
theorem inn_length (k : List Int) : (inn k).length = 64 := by simp [inn, key64_length]
theorem outr_length (k : List Int) : (outr k).length = 64 := by simp [outr, key64_length]
theorem x8_range (c x : Int) (hc : c = 54 ∨ c = 92) (h0 : 0 ≤ x) (h1 : x < 256) : 0 ≤ x8 c x ∧ x8 c x < 256 := by
  obtain ⟨n, rfl⟩ : ∃ n : Nat, x = n := ⟨x.toNat, by omega⟩
  have hn : n < 256 := by omega
  rcases hc with rfl | rfl
  · have h : ∀ m : Fin 256, 0 ≤ x8 54 ((m.val : Nat) : Int) ∧ x8 54 ((m.val : Nat) : Int) < 256 := by decide +kernel
    exact h ⟨n, hn⟩
  · have h : ∀ m : Fin 256, 0 ≤ x8 92 ((m.val : Nat) : Int) ∧ x8 92 ((m.val : Nat) : Int) < 256 := by decide +kernel
    exact h ⟨n, hn⟩
theorem key1_range (k : List Int) (h : ∀ x ∈ k, 0 ≤ x ∧ x < 256) : ∀ x ∈ key1 k, 0 ≤ x ∧ x < 256 := by
  unfold key1
  split
  · exact bytesOf_range _
  · exact h
theorem key64_range (k : List Int) (h : ∀ x ∈ k, 0 ≤ x ∧ x < 256) : ∀ x ∈ key64 k, 0 ≤ x ∧ x < 256 := by
  intro x hx
  rcases List.mem_append.1 hx with hx | hx
  · exact key1_range k h x hx
  · rw [(List.mem_replicate.1 hx).2]; omega
theorem inn_range (k : List Int) (h : ∀ x ∈ k, 0 ≤ x ∧ x < 256) : ∀ x ∈ inn k, 0 ≤ x ∧ x < 256 := by
  intro x hx
  obtain ⟨y, hy, rfl⟩ := List.mem_map.1 hx
  exact x8_range 54 y (.inl rfl) (key64_range k h y hy).1 (key64_range k h y hy).2
theorem outr_range (k : List Int) (h : ∀ x ∈ k, 0 ≤ x ∧ x < 256) : ∀ x ∈ outr k, 0 ≤ x ∧ x < 256 := by
  intro x hx
  obtain ⟨y, hy, rfl⟩ := List.mem_map.1 hx
  exact x8_range 92 y (.inr rfl) (key64_range k h y hy).1 (key64_range k h y hy).2
theorem ok_of (l : List Int) (h : ∀ x ∈ l, 0 ≤ x ∧ x < 256) (hl : l.length ≤ 140737488355000) : ok l = true := by
  simpa [ok] using ⟨h, hl⟩
theorem ok_range {l : List Int} (h : ok l = true) : (∀ x ∈ l, 0 ≤ x ∧ x < 256) ∧ l.length ≤ 140737488355000 := by simpa [ok] using h
theorem macOk_iff (k b : List Int) : macOk k b = true ↔ ok k = true ∧ ok b = true ∧ b.length ≤ 140737488354000 := by
  simp [macOk, and_assoc]
/-- the two texts that are hashed are such that may be -/
theorem ok_inn (k b : List Int) (h : macOk k b = true) : ok (inn k ++ b) = true := by
  obtain ⟨h1, h2, h3⟩ := (macOk_iff k b).1 h
  refine ok_of _ (fun x hx => ?_) (by rw [List.length_append, inn_length]; omega)
  rcases List.mem_append.1 hx with hx | hx
  · exact inn_range k (ok_range h1).1 x hx
  · exact (ok_range h2).1 x hx
theorem ok_out (k b : List Int) (h : macOk k b = true) : ok (outr k ++ bytesOf (sum (inn k ++ b))) = true := by
  obtain ⟨h1, h2, h3⟩ := (macOk_iff k b).1 h
  refine ok_of _ (fun x hx => ?_) (by rw [List.length_append, outr_length, bytesOf_length, sum_size]; omega)
  rcases List.mem_append.1 hx with hx | hx
  · exact outr_range k (ok_range h1).1 x hx
  · exact bytesOf_range _ x hx
end Go.Proofs.Ytbnlkecjcgknhaa.Sha
