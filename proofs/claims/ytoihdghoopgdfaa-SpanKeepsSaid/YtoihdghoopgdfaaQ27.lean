-- JOINED BY A PROGRAM OF THIS PLACE (wip/tools/pack.py) out of: PureSpanKeeps
import Derived.Test.YtoihdghoopgdfaaQ26
section
/-
  SpanKeeps: its plain text, its contract, its plain statement.
-/
namespace Go.Proofs.Ytoihdghoopgdfaa
open Go.RowKit Go.Proofs.YtoihdghoopgdfaaW.PrintWords Go.Proofs.YtoihdghoopgdfaaW.PrintLast Go.Proofs.YtoihdghoopgdfaaW.PrintMore
set_option linter.unusedVariables false
def sawyerlaw16_SpanKeeps.f (l : List (List Int)) (la lb : List Int) : Option Bool :=
  if (∀ r ∈ l, r.length ≤ 140737488354000) ∧ (∀ r ∈ l, ∀ x ∈ r, 0 ≤ x ∧ x < 256) ∧ la.length ≤ 140737488354000 ∧ (∀ x ∈ la, 0 ≤ x ∧ x < 256) ∧ lb.length ≤ 140737488354000 ∧ (∀ x ∈ lb, 0 ≤ x ∧ x < 256) then some true else none
theorem sawyerlaw16_SpanKeeps.calls (A0 : Option Addr) (c0 : Nat) (l0 : List (List Int)) (A1 : Option Addr) (c1 : Nat) (l1 : List Int) (A2 : Option Addr) (c2 : Nat) (l2 : List Int) (r : Bool) (w : World)
    (hr0 : Kd.C (Kd.slice 5 (Kd.int .u8)) w A0 l0.length l0) (hc0 : l0.length ≤ c0) (hr1 : Kd.C (Kd.int .u8) w A1 l1.length l1) (hc1 : l1.length ≤ c1) (hr2 : Kd.C (Kd.int .u8) w A2 l2.length l2) (hc2 : l2.length ≤ c2)
    (h : sawyerlaw16_SpanKeeps.f l0 l1 l2 = some r) :
    Calls Try.prog 4 #[.slice A0 l0.length c0, .slice A1 l1.length c1, .slice A2 l2.length c2] w fun e w' => e = .returned (.bool r) ∧ Below w.heap.size w w' := by
  unfold sawyerlaw16_SpanKeeps.f at h
  split at h
  case isFalse => cases h
  rename_i hok
  obtain ⟨h1, h2, h3, h4, h5, h6⟩ := hok
  obtain rfl := Option.some.inj h
  exact keeps_walk A0 c0 l0 A1 c1 l1 A2 c2 l2 w hr0 hc0 hr1 hc1 hr2 hc2 h1 h2 h3 h4 h5 h6
theorem Pure.SpanKeeps (l : List (List Int)) (y : l.length * 24 ≤ 140737488351232) (yr : ∀ r ∈ l, r.length ≤ 140737488351232) (hw : ∀ r ∈ l, ∀ x ∈ r, 0 ≤ x ∧ x < 256)
    (l1 : List Int) (y1 : l1.length * 1 ≤ 140737488351232) (hw1 : ∀ x ∈ l1, 0 ≤ x ∧ x < 256) (l2 : List Int) (y2 : l2.length * 1 ≤ 140737488351232) (hw2 : ∀ x ∈ l2, 0 ≤ x ∧ x < 256) : sawyerlaw16_SpanKeeps.f l l1 l2 = some true :=
  if_pos ⟨fun r hr => by have := yr r hr; omega, hw, by omega, hw1, by omega, hw2⟩
end Go.Proofs.Ytoihdghoopgdfaa
end
