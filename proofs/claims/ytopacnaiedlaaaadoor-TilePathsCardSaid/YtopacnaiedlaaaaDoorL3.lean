-- JOINED BY A PROGRAM OF THIS PLACE (wip/tools/pack.py) out of: Open2
import Derived.Test.YtopacnaiedlaaaaDoorRows
import Derived.SizedLaws
import Derived.ChangeSlices
import Derived.ProofKit
import Derived.SliceStrings
import Derived.Deep.Matrix
import Derived.Test.YtopacnaiedlaaaaDoorL2
section
/-
  How this seat's arguments are opened: a slice of texts, a slice of slices of bytes; what their weights and their bulk say.
-/
namespace Go.Proofs.YtopacnaiedlaaaaDoor
open Go.RowKit Go.ChangeShapes Go.WideShapes Go.Proofs.YtopacnaiedlaaaaDoorW.PrintWords
open Go.Deep (open_int_rows intRow)
set_option linter.unusedVariables false
set_option linter.unusedSimpArgs false
/-- the datum of a slice of texts -/
def DatS {H : Type} (d : DataW H) (l : List ByteArray) : Prop := l = [] ∨ ∃ sp, d = .slice (strs l) sp
/-- the datum of a slice of slices of bytes: each row is among its elements -/
def DatR {H : Type} (d : DataW H) (l : List (List Int)) : Prop := l = [] ∨ ∃ els sp, d = .slice els sp ∧ els.length = l.length ∧ ∀ r ∈ l, r = [] ∨ ∃ e1 e2, DataW.slice e1 e2 ∈ els ∧ r.length ≤ e1.length
theorem open_texts {H : Type} {enc : TypeId × Value → H} {P : Program} {W : World} {base : Nat} {held : Bool} {t e : TypeId} {a : Option Addr} {len cap : Nat} {d : DataW H} {ps : List MemPlace}
    (hu : P.underlying t = some (.slice e)) (he : P.underlying e = some .string) (hc : P.cellsOf e = 1)
    (h : DataW.Trod enc P W base (fun _ => true) held t (.slice a len cap) d ps) :
    ∃ l : List ByteArray, len = l.length ∧ Kd.C Kd.string W a l.length l ∧ l.length ≤ cap ∧ DatS d l := by
  obtain ⟨fuel, hf⟩ := h
  rcases open_strings hu he hc hf with ⟨hcs, hx⟩ | ⟨x, l, c, ss, hcs, _, hl, hm, hz, hx, hcell, hwz⟩
  · simp [Value.cells] at hcs
    obtain ⟨rfl, rfl, rfl⟩ := hcs
    exact ⟨[], rfl, Kd.C_of_reads (d := ByteArray.empty) (h1 := fun _ => rfl) ⟨rfl, by simp, fun hp => absurd hp (by simp)⟩, Nat.le_refl _, .inl rfl⟩
  · simp [Value.cells] at hcs
    obtain ⟨rfl, rfl, rfl⟩ := hcs
    simp only [if_true] at hz
    obtain ⟨hx, _⟩ := Prod.mk.inj hx
    have hlen : (ss.take len).length = len := by rw [List.length_take]; omega
    refine ⟨ss.take len, hlen.symm, ?_, by omega, .inr ⟨_, hx⟩⟩
    refine Kd.C_of_reads (d := ByteArray.empty) (h1 := fun _ => rfl) ⟨rfl, by rw [hlen]; unfold maxLen at hm; omega, fun hp => ⟨x, rfl, fun j hj => ?_⟩⟩
    rw [hlen] at hj
    rw [hcell j (by omega), List.getD_eq_getElem?_getD, List.getD_eq_getElem?_getD, List.getElem?_take_of_lt hj]
theorem weights_all {H : Type} {P : Program} {e : TypeId} {d : DataW H} : ∀ {l : List (DataW H)}, d ∈ l → ∀ n ∈ d.weights P e, n ∈ DataW.weightsAll P e l
  | x :: r, h, n, hn => by
    simp only [DataW.weightsAll, List.mem_append]
    rcases List.mem_cons.1 h with rfl | h
    · exact .inl hn
    · exact .inr (weights_all h n hn)
theorem texts_sized {H : Type} {P : Program} {ts : List TypeId} {ds : List (DataW H)} {j : Nat} {t e : TypeId} {d : DataW H} {l : List ByteArray}
    (hsz : (DataW.weightsEach P ts ds).all (· ≤ reachBytes) = true) (ht : ts[j]? = some t) (hd : ds[j]? = some d) (hu : P.underlying t = some (.slice e)) (hB : P.bytesOf e = 16) (h : DatS d l) :
    l.length * 16 ≤ 140737488351232 ∧ ∀ s ∈ l, s.size ≤ 140737488351232 := by
  rcases h with rfl | ⟨sp, rfl⟩
  · simp
  · have z := sized_slice hsz ht hd hu
    rw [hB] at z
    have hl : (strs (H := H) l).length = l.length := by simp [strs]
    rw [hl] at z
    refine ⟨Nat.le_trans (Nat.mul_le_mul_right _ (by omega)) z, fun s hs => ?_⟩
    have hm : s.data.toList.length ∈ DataW.weightsEach P ts ds := by
      refine DataW.weights_mem_each ht hd _ ?_
      simp only [DataW.weights, hu, List.mem_cons, List.mem_append]
      refine .inr (.inl (weights_all (d := .lit (.string s.data.toList)) ?_ _ (by simp [DataW.weights])))
      exact List.mem_map.2 ⟨s, hs, rfl⟩
    have := List.all_eq_true.1 hsz _ hm
    have h2 : s.data.toList.length ≤ reachBytes := by simpa using this
    rw [Array.length_toList] at h2
    exact h2
theorem bulk_all {H : Type} {d : DataW H} {l : List (DataW H)} (h : d ∈ l) : Rows.uptoBulk d ≤ Rows.uptoBulkAll l := by
  induction l with
  | nil => cases h
  | cons x r ih =>
    simp only [Rows.uptoBulkAll]
    cases List.mem_cons.1 h with
    | inl e => subst e; omega
    | inr e => have := ih e; omega
theorem texts_bulk {H : Type} {ds : List (DataW H)} {d : DataW H} {l : List ByteArray} (hk : Rows.uptoSmall H ds = true) (hd : d ∈ ds) (h : DatS d l) : l.length ≤ 1048576 ∧ ∀ s ∈ l, s.size ≤ 1048576 := by
  rcases h with rfl | ⟨sp, rfl⟩
  · simp
  · have h1 := bulk_all hd
    have h2 : Rows.uptoBulkAll ds ≤ 1048576 := by simpa [Rows.uptoSmall] using hk
    simp only [Rows.uptoBulk] at h1
    have h4 : ∀ m : List ByteArray, m.length ≤ Rows.uptoBulkAll (strs (H := H) m) := by
      intro m
      induction m with
      | nil => simp
      | cons x r ih =>
        show (x :: r).length ≤ Rows.uptoBulkAll ((.lit (.string x.data.toList)) :: strs r)
        simp only [Rows.uptoBulkAll, Rows.uptoBulk, List.length_cons]
        omega
    refine ⟨by have := h4 l; omega, fun s hs => ?_⟩
    have h3 := bulk_all (H := H) (d := .lit (.string s.data.toList)) (l := strs l) (List.mem_map.2 ⟨s, hs, rfl⟩)
    simp only [Rows.uptoBulk, Array.length_toList] at h3
    have h5 : s.size = s.data.size := rfl
    omega
theorem open_rows8 {H : Type} {enc : TypeId × Value → H} {P : Program} {W : World} {base : Nat} {held : Bool} {t e q : TypeId} {a : Option Addr} {len cap : Nat} {d : DataW H} {ps : List MemPlace}
    (hu : P.underlying t = some (.slice e)) (he : P.underlying e = some (.slice q)) (hq : P.underlying q = some (.int .u8)) (ce : P.cellsOf e = 1) (cq : P.cellsOf q = 1) (hqt : q = 5)
    (h : DataW.Trod enc P W base (fun _ => true) held t (.slice a len cap) d ps) :
    ∃ l : List (List Int), len = l.length ∧ Kd.C (Kd.slice 5 (Kd.int .u8)) W a l.length l ∧ l.length ≤ cap ∧ DatR d l ∧ ∀ r ∈ l, ∀ x ∈ r, 0 ≤ x ∧ x < 256 := by
  obtain ⟨fuel, hf⟩ := h
  rcases open_int_rows hu he hq ce cq hf with ⟨hcs, hx⟩ | ⟨x, l, c, A, L, C, Z, hcs, _, hl, hm, hx, hrow⟩
  · simp [Value.cells] at hcs
    obtain ⟨rfl, rfl, rfl⟩ := hcs
    exact ⟨[], rfl, ⟨rfl, by simp, fun hp => absurd hp (by simp)⟩, Nat.le_refl _, .inl rfl, by simp⟩
  · simp [Value.cells] at hcs
    obtain ⟨rfl, rfl, rfl⟩ := hcs
    obtain ⟨hx, _⟩ := Prod.mk.inj hx
    obtain ⟨R, hR⟩ : ∃ R : List (List Int), R = (List.range len).map fun r => (Z r).take (L r) := ⟨_, rfl⟩
    have hRl : R.length = len := by rw [hR]; simp
    have hRi : ∀ i, i < len → R[i]? = some ((Z i).take (L i)) := by intro i hi; rw [hR]; simp [hi]
    have hZl : ∀ i, i < len → ((Z i).take (L i)).length = L i := by
      intro i hi
      obtain ⟨_, h2, _, h4, _⟩ := hrow i (by omega)
      rw [List.length_take]; omega
    refine ⟨R, hRl.symm, ⟨rfl, by rw [hRl]; unfold maxLen at hm; omega, fun hp => ⟨x, rfl, fun j p hj => ?_⟩⟩, by omega, .inr ⟨_, _, hx, by simp [hRl], ?_⟩, ?_⟩
    · have hjl : j < len := by have := (List.getElem?_eq_some_iff.1 hj).1; omega
      rw [hRi j hjl] at hj
      obtain rfl := Option.some.inj hj
      obtain ⟨h1, h2, h3, h4, h5, h6, h7⟩ := hrow j (by omega)
      refine ⟨[.slice (A j) (L j) (C j)], rfl, ⟨A j, C j, by rw [hZl j hjl], by rw [hZl j hjl]; exact h2, ?_⟩, fun i u hu => ?_⟩
      · rw [hZl j hjl]
        refine Kd.C_of_reads (d := (0 : Int)) (h1 := fun _ => rfl) ⟨hZl j hjl, by unfold maxLen at h3; omega, fun hp2 => ?_⟩
        cases hA : A j with
        | none => have := h6 hA; omega
        | some a' =>
          refine ⟨a', rfl, fun i hi => ?_⟩
          obtain ⟨_, hc⟩ := h7 a' hA
          rw [hc i (by omega), List.getD_eq_getElem?_getD, List.getD_eq_getElem?_getD, List.getElem?_take_of_lt hi]
      · cases i with
        | zero =>
          simp only [List.getElem?_cons_zero, Option.some.injEq] at hu
          subst hu
          show W.cell? (x.add (j * 1 + 0)) = _
          rw [Nat.mul_one, Nat.add_zero]
          exact h1
        | succ i => simp at hu
    · intro r hr
      obtain ⟨i, hi, rfl⟩ := List.getElem_of_mem hr
      have hil : i < len := by omega
      have e := hRi i hil
      rw [List.getElem?_eq_getElem hi] at e
      have e := Option.some.inj e
      rw [e]
      obtain ⟨h1, h2, h3, h4, h5, h6, h7⟩ := hrow i (by omega)
      cases hA : A i with
      | none =>
        left
        have := h6 hA
        exact List.eq_nil_of_length_eq_zero (by rw [hZl i hil]; omega)
      | some a' =>
        right
        refine ⟨lits .u8 ((Z i).take (L i)), lits .u8 ((Z i).drop (L i)), List.mem_map.2 ⟨i, List.mem_range.2 hil, by simp [intRow, hA]⟩, by simp [lits]⟩
    · intro r hr y hy
      obtain ⟨i, hi, rfl⟩ := List.getElem_of_mem hr
      have hil : i < len := by omega
      have e := hRi i hil
      rw [List.getElem?_eq_getElem hi] at e
      have e := Option.some.inj e
      rw [e] at hy
      obtain ⟨h1, h2, h3, h4, h5, h6, h7⟩ := hrow i (by omega)
      have h8 : 0 ≤ y ∧ y ≤ 255 := by simpa [Lit.wf, IntKind.min, IntKind.max, IntKind.signed, IntKind.bits] using h5 y (List.mem_of_mem_take hy)
      omega
theorem rows_sized {H : Type} {P : Program} {ts : List TypeId} {ds : List (DataW H)} {j : Nat} {t e q : TypeId} {d : DataW H} {l : List (List Int)}
    (hsz : (DataW.weightsEach P ts ds).all (· ≤ reachBytes) = true) (ht : ts[j]? = some t) (hd : ds[j]? = some d) (hu : P.underlying t = some (.slice e)) (he : P.underlying e = some (.slice q)) (hB : P.bytesOf e = 24) (hQ : P.bytesOf q = 1) (h : DatR d l) :
    l.length * 24 ≤ 140737488351232 ∧ ∀ r ∈ l, r.length ≤ 140737488351232 := by
  rcases h with rfl | ⟨els, sp, rfl, hl, hr⟩
  · simp
  · have z := sized_slice hsz ht hd hu
    rw [hB] at z
    refine ⟨Nat.le_trans (Nat.mul_le_mul_right _ (by omega)) z, fun r hm => ?_⟩
    rcases hr r hm with rfl | ⟨e1, e2, hme, hle⟩
    · simp
    · have hm : (e1.length + e2.length) * 1 ∈ DataW.weightsEach P ts ds := by
        refine DataW.weights_mem_each ht hd _ ?_
        simp only [DataW.weights, hu, List.mem_cons, List.mem_append]
        exact .inr (.inl (weights_all hme _ (by simp [DataW.weights, he, hQ])))
      have := List.all_eq_true.1 hsz _ hm
      have h2 : (e1.length + e2.length) * 1 ≤ reachBytes := by simpa using this
      have h3 : reachBytes = 140737488351232 := by decide
      omega
end Go.Proofs.YtopacnaiedlaaaaDoor
end
