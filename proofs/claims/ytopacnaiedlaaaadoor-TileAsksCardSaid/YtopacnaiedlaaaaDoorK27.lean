-- JOINED BY A PROGRAM OF THIS PLACE (wip/tools/pack.py) out of: THs
import Derived.Test.YtopacnaiedlaaaaDoorK4
import Derived.Test.YtopacnaiedlaaaaDoorK6
import Derived.Test.YtopacnaiedlaaaaDoorK10
import Derived.Test.YtopacnaiedlaaaaDoorK13
import Derived.Test.YtopacnaiedlaaaaDoorK25
import Derived.Test.YtopacnaiedlaaaaDoorK26
section
/-
  The program's Root, Path, Proof and the document's Root, Cut, as the plain text Hs has them (the tile seat's part of the hash chapter's plain laws).
-/
namespace Go.Proofs.YtopacnaiedlaaaaDoor.F
open Go.RowKit Go.Proofs.YtopacnaiedlaaaaDoor Go.Proofs.YtopacnaiedlaaaaDoorW.PrintWords Go.Proofs.YtopacnaiedlaaaaDoorW.PrintLast Go.Proofs.YtopacnaiedlaaaaDoorW.PrintMore
set_option linter.unusedVariables false
set_option linter.unusedSimpArgs false
theorem rcut_from (n E : Nat) (hn : n ≤ 2305843009213693952) (h1 : 2 ^ E < n) (h2 : n ≤ 2 * 2 ^ E) (d : Nat) : ∀ e, e + d = E → Ev (fun k => sawyerref15_Cut.l0 k (n : Int) ((2 ^ e : Nat) : Int)) ((2 ^ E : Nat) : Int) := by
  induction d with
  | zero =>
    intro e he
    obtain rfl : e = E := by omega
    refine Ev.step (f := fun _ => some _) (fun k => ?_) (Ev.now _)
    simp only [sawyerref15_Cut.l0]
    rw [if_neg (by unfold wrap64; omega)]
  | succ d ih =>
    intro e he
    have hle : 2 ^ (e + 1) ≤ 2 ^ E := Nat.pow_le_pow_right (by omega) (by omega)
    have hp : 2 ^ (e + 1) = 2 * 2 ^ e := by rw [Nat.pow_succ]; omega
    have hw : wrap64 (2 * ((2 ^ e : Nat) : Int)) = ((2 ^ (e + 1) : Nat) : Int) := by
      rw [hp]
      unfold wrap64
      omega
    refine Ev.step (fun k => ?_) (ih (e + 1) (by omega))
    simp only [sawyerref15_Cut.l0]
    rw [hw, if_pos (by omega)]
theorem rcut_some (n : Nat) (h : 2 ≤ n) (hn : n ≤ 2305843009213693952) : Ev (fun k => sawyerref15_Cut.f k (n : Int)) (Hs.cut n : Int) := by
  have a := Hs.cut_lt n h
  have b := Hs.cut_two n h
  unfold Hs.cut at a b ⊢
  exact rcut_from n _ hn a b _ 0 (Nat.zero_add _)
theorem cut_half (n e : Nat) (h2 : 2 ≤ n) (he : n ≤ 2 ^ (e + 1)) : Hs.cut n ≤ 2 ^ e ∧ n - Hs.cut n ≤ 2 ^ e := by
  have hc := Hs.cut_lt n h2
  have hc2 := Hs.cut_two n h2
  have hle : Hs.cut n ≤ 2 ^ e := by
    unfold Hs.cut at hc ⊢
    rcases Nat.lt_or_ge e (bitLen (n - 1) - 1) with h | h
    · have : 2 ^ (e + 1) ≤ 2 ^ (bitLen (n - 1) - 1) := Nat.pow_le_pow_right (by omega) (by omega)
      omega
    · exact Nat.pow_le_pow_right (by omega) h
  omega
end Go.Proofs.YtopacnaiedlaaaaDoor.F
end
