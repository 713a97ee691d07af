-- JOINED BY A PROGRAM OF THIS PLACE (wip/tools/pack.py) out of: PureSpanPushes
import Derived.Test.YtoihdghoopgdfaaK27
section
/-
  SpanPushes: its plain text, its contract, its plain statement.
-/
namespace Go.Proofs.Ytoihdghoopgdfaa
open Go.RowKit Go.Proofs.YtoihdghoopgdfaaW.PrintWords Go.Proofs.YtoihdghoopgdfaaW.PrintLast Go.Proofs.YtoihdghoopgdfaaW.PrintMore
set_option linter.unusedVariables false
def sawyerlaw16_SpanPushes.f (a0 : Int) (l0 : List ByteArray) (a1 : ByteArray) : Option Bool := if l0.length ≤ 9223372036854775806 then some true else none
theorem sawyerlaw16_SpanPushes.calls (a0 : Int) (A0 : Option Addr) (c0 : Nat) (l0 : List ByteArray) (a1 : ByteArray) (r : Bool) (w : World) (hr0 : Kd.C Kd.string w A0 l0.length l0) (hc0 : l0.length ≤ c0) (h : sawyerlaw16_SpanPushes.f a0 l0 a1 = some r) :
    Calls Try.prog 3 #[.agg #[.int .i64 a0, .slice A0 l0.length c0], .string a1] w fun e w' => e = .returned (.bool r) ∧ Below w.heap.size w w' := by
  unfold sawyerlaw16_SpanPushes.f at h
  split at h
  case isFalse => cases h
  rename_i hok
  obtain rfl := Option.some.inj h
  exact pushes_walk a0 A0 c0 l0 a1 w hr0 hc0 hok
theorem Pure.SpanPushes (a : Int) (l : List ByteArray) (y : l.length * 16 ≤ 140737488351232) (b : ByteArray) (hb : b.size ≤ 140737488351232) : sawyerlaw16_SpanPushes.f a l b = some true := if_pos (by omega)
end Go.Proofs.Ytoihdghoopgdfaa
end
