-- JOINED BY A PROGRAM OF THIS PLACE (wip/tools/pack.py) out of: PureSpanCodes
import Derived.Test.YtoihdghoopgdfaaX230
section
/-
  SpanCodes: its plain text, its contract, its plain statement.
-/
namespace Go.Proofs.Ytoihdghoopgdfaa
open Go.RowKit Go.Proofs.YtoihdghoopgdfaaW.PrintWords Go.Proofs.YtoihdghoopgdfaaW.PrintLast Go.Proofs.YtoihdghoopgdfaaW.PrintMore
set_option linter.unusedVariables false
def sawyerlaw16_SpanCodes.f (a : Int) (l : List ByteArray) (b : List Int) : Option Bool :=
  if l.length ≤ 9223372036854775806 ∧ (∀ x ∈ b, 0 ≤ x ∧ x < 256) ∧ b.length ≤ 140737488354000 then some true else none
theorem sawyerlaw16_SpanCodes.calls (a0 : Int) (A0 : Option Addr) (c0 : Nat) (l0 : List ByteArray) (A1 : Option Addr) (c1 : Nat) (l1 : List Int) (r : Bool) (w : World)
    (hr0 : Kd.C Kd.string w A0 l0.length l0) (hc0 : l0.length ≤ c0) (hr1 : Kd.C (Kd.int .u8) w A1 l1.length l1) (hc1 : l1.length ≤ c1) (h : sawyerlaw16_SpanCodes.f a0 l0 l1 = some r) :
    Calls Try.prog 5 #[.agg #[.int .i64 a0, .slice A0 l0.length c0], .slice A1 l1.length c1] w fun e w' => e = .returned (.bool r) ∧ Below w.heap.size w w' := by
  unfold sawyerlaw16_SpanCodes.f at h
  split at h
  case isFalse => cases h
  rename_i hok
  obtain rfl := Option.some.inj h
  exact codes_walk a0 A0 c0 l0 A1 c1 l1 w hr0 hc0 hok.1 hr1 hc1 hok.2.1 hok.2.2
theorem Pure.SpanCodes (a : Int) (l : List ByteArray) (y : l.length * 16 ≤ 140737488351232) (b : List Int) (y1 : b.length * 1 ≤ 140737488351232) (hw1 : ∀ x ∈ b, 0 ≤ x ∧ x < 256) : sawyerlaw16_SpanCodes.f a l b = some true :=
  if_pos ⟨by omega, hw1, by omega⟩
end Go.Proofs.Ytoihdghoopgdfaa
end
