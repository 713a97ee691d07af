-- JOINED BY A PROGRAM OF THIS PLACE (wip/tools/pack.py) out of: PureBloomBuilds
import Derived.Test.YtojabcadoajbjaaK17
import Derived.Test.YtojabcadoajbjaaK21
section
/-
  The plain statement of BloomBuilds.
-/
namespace Go.Proofs.Ytojabcadoajbjaa.Pure
open Go.RowKit Go.Proofs.Ytojabcadoajbjaa Go.Proofs.Ytojabcadoajbjaa.F Go.Proofs.YtojabcadoajbjaaW.PrintWords Go.Proofs.YtojabcadoajbjaaW.PrintLast Go.Proofs.YtojabcadoajbjaaW.PrintMore
set_option linter.unusedVariables false
set_option linter.unusedSimpArgs false
theorem bb_len (n : Nat) (y1 : n * 24 ≤ 140737488351232) : n ≤ 5864062014700 := by omega
theorem bb_row (r : List Int) (h : r.length ≤ 140737488351232) : r.length ≤ 140737488354000 := by omega
theorem bb_same (q : List Int) : ((sawyerref02_Same.f q q).bind fun t157 => (some t157)) = some true := by
  unfold sawyerref02_Same.f
  rw [beq_self_eq_true]
  rfl
theorem bb_step (X : Option (List Int)) (Y : Option Bool) (q : List Int) (Z : Option (List Int)) (h1 : Y = some true) (h2 : X = some q) :
    (Y.bind fun t150 => (if t150 = true then (X.bind fun t151 => (Z.bind fun t154 => ((sawyerref02_Same.f t151 t154).bind fun t157 => (some t157)))) else (some false))) = Z.bind fun t154 => ((sawyerref02_Same.f q t154).bind fun t157 => (some t157)) := by
  subst h1 h2
  rfl
theorem bb_ev (g : Nat → Option (List Int)) (q : List Int) (h : Ev g q) : Ev (fun k => (g k).bind fun t154 => ((sawyerref02_Same.f q t154).bind fun t157 => (some t157))) true := by
  refine Ev.bind (f := fun _ t154 => ((sawyerref02_Same.f q t154).bind fun t157 => (some t157))) h ?_
  rw [bb_same]
  exact Ev.now _
theorem BloomBuilds (l : List (List Int)) (y1 : l.length * 24 ≤ 140737488351232) (y2 : ∀ r ∈ l, r.length ≤ 140737488351232) (hb : ∀ r ∈ l, ∀ x ∈ r, 0 ≤ x ∧ x < 256) : ∃ k, sawyerlaw07_BloomBuilds.f k l = some true :=
  Ev.rounds (Ev.congr (fun k => bb_step _ _ _ _ awake_some (build_some l (fun r hr => bb_row r (y2 r hr)) (bb_len l.length y1))) (bb_ev (fun k => sawyerref07_Build.f k l) (buildB l) (rbuild_ev l (fun r hr => bb_row r (y2 r hr)) (bb_len l.length y1))))
end Go.Proofs.Ytojabcadoajbjaa.Pure
end
