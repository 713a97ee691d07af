/-
  Places of a key, and what a loop's record being turned leaves as it was.
-/
import Derived.Test.YtojabcadoajbjaaPlaces
namespace Go.Proofs.Ytojabcadoajbjaa
open Go.RowKit Go.Proofs.YtojabcadoajbjaaW.PrintWords Go.Proofs.YtojabcadoajbjaaW.PrintLast Go.Proofs.YtojabcadoajbjaaW.PrintMore Go.Proofs.YtojabcadoajbjaaR
set_option linter.unusedVariables false
set_option linter.unusedSimpArgs false
attribute [local go_sem] Oper.semAt_some

def place (h s bits : Int) (k : Nat) : Int := Int.tmod (wrap64 (hsum h s k)) bits
theorem hsum_range (h s : Int) (k : Nat) (hh : 0 ≤ h ∧ h < 4294967296) : 0 ≤ hsum h s k ∧ hsum h s k < 4294967296 := by
  cases k with
  | zero => exact hh
  | succ k => simp only [hsum]; omega
theorem place_nonneg (h s bits : Int) (k : Nat) (hh : 0 ≤ h ∧ h < 4294967296) : 0 ≤ place h s bits k := by
  have := hsum_range h s k hh
  unfold place
  rw [show wrap64 (hsum h s k) = hsum h s k by unfold wrap64; omega]
  exact Int.tmod_nonneg _ this.1
theorem place_lt (h s bits : Int) (k : Nat) (hb : 0 < bits) : place h s bits k < bits := Int.tmod_lt_of_pos _ hb
def mask (p : Int) : Int := IntKind.u8.wrap (2 ^ min (Int.tmod p 8).toNat 8)

theorem put_cells {W : World} {l b : Nat} {o o' : Obj} {cs : Array Value} {t : TypeId} (hl : W.heap[l]? = some o) (ho : o.isCells = false) (hb : W.heap[b]? = some (.cells cs t (0, 0))) : (W.putObj l o').heap[b]? = some (.cells cs t (0, 0)) := by
  by_cases e : b = l
  · subst e
    rw [hl] at hb
    cases hb
    cases ho
  · exact (World.putObj_heap_other e).trans hb
theorem put_below {n₀ : Nat} {w W : World} {l : Nat} {o o' : Obj} (h : Below n₀ w W) (hn : n₀ ≤ l) (hl : W.heap[l]? = some o) : Below n₀ w (W.putObj l o') :=
  h.trans ((Below.refl n₀ W).grown (grownBy_putObj' W l o') (by have := (Array.getElem?_eq_some_iff.1 hl).1; omega) (fun k e => by cases e; omega))
theorem PlSt.put {bh bb bs : Nat} {h s bits : Int} {k : Nat} {W : World} {l : Nat} {o o' : Obj} (hs : PlSt bh bb bs h s bits k W) (hl : W.heap[l]? = some o) (ho : o.isCells = false) : PlSt bh bb bs h s bits k (W.putObj l o') :=
  ⟨put_cells hl ho hs.ch, put_cells hl ho hs.cb, put_cells hl ho hs.cs⟩
theorem PlSt.adv {bh bb bs : Nat} {h s bits : Int} {k : Nat} {W : World} (hs : PlSt bh bb bs h s bits k W) (n1 : bh ≠ bb) (n2 : bh ≠ bs) : PlSt bh bb bs h s bits (k + 1) (plAdv bh h s k W) :=
  ⟨one_setCell hs.ch, (Below.heap_setCell W ⟨bh, 0, none⟩ _ _ (Ne.symm n1)).trans hs.cb, (Below.heap_setCell W ⟨bh, 0, none⟩ _ _ (Ne.symm n2)).trans hs.cs⟩
end Go.Proofs.Ytojabcadoajbjaa
