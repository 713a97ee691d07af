-- JOINED BY A PROGRAM OF THIS PLACE (wip/tools/pack.py) out of: Open2
import Derived.Test.YtoihdghoopgdfaaRows
import Derived.ProofKit
import Derived.SliceStrings
import Derived.Deep.Matrix
import Derived.Test.YtoihdghoopgdfaaX22
import Derived.Test.YtoihdghoopgdfaaX231
section
/-
  How this seat's arguments are opened: a slice of texts, a slice of slices of bytes; what their weights and their bulk say.
-/
namespace Go.Proofs.Ytoihdghoopgdfaa
open Go.RowKit Go.ChangeShapes Go.WideShapes Go.Proofs.YtoihdghoopgdfaaW.PrintWords
open Go.Deep (open_int_rows intRow)
set_option linter.unusedVariables false
set_option linter.unusedSimpArgs false
/-- the datum of a slice of texts -/
def DatS {H : Type} (d : DataW H) (l : List ByteArray) : Prop := l = [] ∨ ∃ sp, d = .slice (strs l) sp
theorem open_texts {H : Type} {enc : TypeId × Value → H} {P : Program} {W : World} {base : Nat} {held : Bool} {t e : TypeId} {a : Option Addr} {len cap : Nat} {d : DataW H} {ps : List MemPlace}
    (hu : P.underlying t = some (.slice e)) (he : P.underlying e = some .string) (hc : P.cellsOf e = 1)
    (h : DataW.Trod enc P W base (fun _ => true) held t (.slice a len cap) d ps) :
    ∃ l : List ByteArray, len = l.length ∧ Kd.C Kd.string W a l.length l ∧ l.length ≤ cap ∧ DatS d l := by
  obtain ⟨fuel, hf⟩ := h
  rcases open_strings hu he hc hf with ⟨hcs, hx⟩ | ⟨x, l, c, ss, hcs, _, hl, hm, hz, hx, hcell, hwz⟩
  · simp [Value.cells] at hcs
    obtain ⟨rfl, rfl, rfl⟩ := hcs
    exact ⟨[], rfl, Kd.C_of_reads (d := ByteArray.empty) (h1 := fun _ => rfl) ⟨rfl, by simp, fun hp => absurd hp (by simp)⟩, Nat.le_refl _, .inl rfl⟩
  · simp [Value.cells] at hcs
    obtain ⟨rfl, rfl, rfl⟩ := hcs
    simp only [if_true] at hz
    obtain ⟨hx, _⟩ := Prod.mk.inj hx
    have hlen : (ss.take len).length = len := by rw [List.length_take]; omega
    refine ⟨ss.take len, hlen.symm, ?_, by omega, .inr ⟨_, hx⟩⟩
    refine Kd.C_of_reads (d := ByteArray.empty) (h1 := fun _ => rfl) ⟨rfl, by rw [hlen]; unfold maxLen at hm; omega, fun hp => ⟨x, rfl, fun j hj => ?_⟩⟩
    rw [hlen] at hj
    rw [hcell j (by omega), List.getD_eq_getElem?_getD, List.getD_eq_getElem?_getD, List.getElem?_take_of_lt hj]
theorem weights_all {H : Type} {P : Program} {e : TypeId} {d : DataW H} : ∀ {l : List (DataW H)}, d ∈ l → ∀ n ∈ d.weights P e, n ∈ DataW.weightsAll P e l
  | x :: r, h, n, hn => by
    simp only [DataW.weightsAll, List.mem_append]
    rcases List.mem_cons.1 h with rfl | h
    · exact .inl hn
    · exact .inr (weights_all h n hn)
theorem texts_sized {H : Type} {P : Program} {ts : List TypeId} {ds : List (DataW H)} {j : Nat} {t e : TypeId} {d : DataW H} {l : List ByteArray}
    (hsz : (DataW.weightsEach P ts ds).all (· ≤ reachBytes) = true) (ht : ts[j]? = some t) (hd : ds[j]? = some d) (hu : P.underlying t = some (.slice e)) (hB : P.bytesOf e = 16) (h : DatS d l) :
    l.length * 16 ≤ 140737488351232 ∧ ∀ s ∈ l, s.size ≤ 140737488351232 := by
  rcases h with rfl | ⟨sp, rfl⟩
  · simp
  · have z := sized_slice hsz ht hd hu
    rw [hB] at z
    have hl : (strs (H := H) l).length = l.length := by simp [strs]
    rw [hl] at z
    refine ⟨Nat.le_trans (Nat.mul_le_mul_right _ (by omega)) z, fun s hs => ?_⟩
    have hm : s.data.toList.length ∈ DataW.weightsEach P ts ds := by
      refine DataW.weights_mem_each ht hd _ ?_
      simp only [DataW.weights, hu, List.mem_cons, List.mem_append]
      refine .inr (.inl (weights_all (d := .lit (.string s.data.toList)) ?_ _ (by simp [DataW.weights])))
      exact List.mem_map.2 ⟨s, hs, rfl⟩
    have := List.all_eq_true.1 hsz _ hm
    have h2 : s.data.toList.length ≤ reachBytes := by simpa using this
    rw [Array.length_toList] at h2
    exact h2
end Go.Proofs.Ytoihdghoopgdfaa
end
