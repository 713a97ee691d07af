/-
  The turning of words (math/bits.RotateLeft32, sha.turned): what a call answers.
-/
import Derived.Test.YtbnlkecjcgknhaaBase
import Derived.Test.YtbnlkecjcgknhaaSha
namespace Go.Proofs.Ytbnlkecjcgknhaa
open Go.RowKit Go.Proofs.YtbnlkecjcgknhaaW.PrintWords Go.Proofs.YtbnlkecjcgknhaaW.PrintLast Go.Proofs.YtbnlkecjcgknhaaW.PrintMore
set_option linter.unusedVariables false
set_option linter.unusedSimpArgs false

theorem rotl_calls (x k : Int) (n m : Nat) (hn : n + m = 32) (hk : Go.bits .and .u64 (IntKind.u64.wrap k) 31 = (m : Int)) (w : World) :
    Calls Try.prog 24 #[.int .u32 x, .int .i64 k] w fun e w' => e = .returned (.int .u32 (Sha.rot x n)) ∧ w = w' := by
  have h1 : (0 : Int) ≤ (m : Int) := by omega
  have h2 : (m : Int) ≤ 32 := by omega
  have h3 : IntKind.u64.wrap (32 - (m : Int)) = (n : Int) := by rw [show (32 - (m : Int)) = (n : Int) by omega, IntKind.wrap_u64]; omega
  go_enter Try.func24, Try.ntmps24
  go_wp2
  go_ret
  obtain rfl : m = 32 - n := by omega
  exact ⟨rfl, rfl⟩

theorem big1_calls (x : Int) (w : World) :
    Calls Try.prog 20 #[.int .u32 x, .int .i64 6, .int .i64 11, .int .i64 25] w fun e w' => e = .returned (.int .u32 (Sha.big1 x)) ∧ w = w' := by
  go_enter Try.func20, Try.ntmps20
  go_wp2_with fail
  refine (rotl_calls x (-6) 6 26 (by decide) (by decide) _).mono ?_
  rintro e w1 ⟨rfl, rfl⟩
  go_wp2_with fail
  refine (rotl_calls x (-11) 11 21 (by decide) (by decide) _).mono ?_
  rintro e w1 ⟨rfl, rfl⟩
  go_wp2_with fail
  refine (rotl_calls x (-25) 25 7 (by decide) (by decide) _).mono ?_
  rintro e w1 ⟨rfl, rfl⟩
  go_wp2_with fail
  go_ret
  exact ⟨rfl, rfl⟩

theorem big0_calls (x : Int) (w : World) :
    Calls Try.prog 20 #[.int .u32 x, .int .i64 2, .int .i64 13, .int .i64 22] w fun e w' => e = .returned (.int .u32 (Sha.big0 x)) ∧ w = w' := by
  go_enter Try.func20, Try.ntmps20
  go_wp2_with fail
  refine (rotl_calls x (-2) 2 30 (by decide) (by decide) _).mono ?_
  rintro e w1 ⟨rfl, rfl⟩
  go_wp2_with fail
  refine (rotl_calls x (-13) 13 19 (by decide) (by decide) _).mono ?_
  rintro e w1 ⟨rfl, rfl⟩
  go_wp2_with fail
  refine (rotl_calls x (-22) 22 10 (by decide) (by decide) _).mono ?_
  rintro e w1 ⟨rfl, rfl⟩
  go_wp2_with fail
  go_ret
  exact ⟨rfl, rfl⟩
end Go.Proofs.Ytbnlkecjcgknhaa
