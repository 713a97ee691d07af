/-
  A constant's bytes: the row of a literal that a conversion to its own type marks.
-/
import Derived.Test.YtojabcadoajbjaaBytes
namespace Go.Proofs.Ytojabcadoajbjaa
open Go.RowKit Go.Proofs.YtojabcadoajbjaaW.PrintWords Go.Proofs.YtojabcadoajbjaaW.PrintLast Go.Proofs.YtojabcadoajbjaaW.PrintMore
set_option linter.unusedVariables false
set_option linter.unusedSimpArgs false

theorem freeze_block {W : World} {g k : Nat} {C : Array Value} {e : TypeId} (h : W.heap[g]? = some (.cells C e (0, 0))) : (W.freeze ⟨g, k, none⟩ 1).heap[g]? = some (.cells C e (k, k + 1)) := by
  unfold World.freeze
  rw [if_neg (by decide)]
  simp [Array.getElem?_modify, h]
theorem freeze_other {W : World} {g k j : Nat} (hj : j ≠ g) : (W.freeze ⟨g, k, none⟩ 1).heap[j]? = W.heap[j]? := by
  unfold World.freeze
  rw [if_neg (by decide)]
  simp [Array.getElem?_modify, Ne.symm hj]

/-- the conversion of a row of the call's own, that is not empty -/
theorem conv_run {W : World} {base : Nat} {ok : Nat → Prop} {A : Option Addr} {n c : Nat} {xs : List Int} (h : Kd.R (Kd.int .u8) 5 W base ok (.slice A n c) xs) (hp : 0 < xs.length) :
    ∃ W', Sem.run Try.prog (convert 25 25 (.slice A n c)) W = .ok (.slice A n c) W' ∧ Below base W W' ∧ Kd.C (Kd.int .u8) W' A xs.length xs ∧ xs.length ≤ c := by
  obtain ⟨hn, hnc, hC⟩ := Kd.R_reads' h
  obtain ⟨inner, ho⟩ := Kd.R_own h
  rcases ho.2 with ⟨hv, hx⟩ | ⟨g, cap, cur, hv, hb, hh, rest⟩
  · cases hv
    omega
  · cases hv
    have hsh : W.shape? g = some (5, cur.size) := by
      unfold World.shape?
      rw [hh]
    refine ⟨W.freeze ⟨g, cur.size, none⟩ 1, ?_, ⟨?_, ?_, ?_, ?_, fun j hj => freeze_other (by omega)⟩, ?_, by omega⟩
    · simp [convert, run_underlying Try.underlying25, run_underlying Try.underlying5, markStringish, hsh]
    · unfold World.freeze; rw [if_neg (by decide)]
    · unfold World.freeze; rw [if_neg (by decide)]
    · unfold World.freeze; rw [if_neg (by decide)]
    · unfold World.freeze; rw [if_neg (by decide)]; simp
    · obtain ⟨h1, h2, h3⟩ := Kd.reads_of_C (d := (0 : Int)) hC
      refine Kd.C_of_reads (d := (0 : Int)) (h1 := fun _ => rfl) ⟨h1, h2, fun hq => ?_⟩
      obtain ⟨ad, e, hc⟩ := h3 hq
      refine ⟨ad, e, fun j hj => ?_⟩
      have := hc j hj
      cases e
      rw [add_plain] at this ⊢
      simp only [World.cell?, hh] at this
      simp only [World.cell?, freeze_block (k := cur.size) hh]
      exact this
end Go.Proofs.Ytojabcadoajbjaa
