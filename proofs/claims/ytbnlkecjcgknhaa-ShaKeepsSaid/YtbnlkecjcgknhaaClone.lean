/-
  What slices.Clone answers at []byte: a row of its own with the same bytes.
-/
import Derived.Test.YtbnlkecjcgknhaaBytes
namespace Go.Proofs.Ytbnlkecjcgknhaa
open Go.RowKit Go.Proofs.YtbnlkecjcgknhaaW.PrintWords Go.Proofs.YtbnlkecjcgknhaaW.PrintLast Go.Proofs.YtbnlkecjcgknhaaW.PrintMore
set_option linter.unusedVariables false
set_option linter.unusedSimpArgs false

theorem clone8_calls (A : Option Addr) (c : Nat) (l : List Int) (w : World) (hr : Rd8 w A l) (hl : l.length ≤ 140737488355328) :
    Calls Try.prog 15 #[.slice A l.length c] w fun e w' => ∃ v0_ : Value, e = .returned v0_ ∧ Own8 w' w.heap.size v0_ l ∧ Below w.heap.size w w' := by
  have HR := Lib.hid hr
  have he := fun w n c => Lib.run_eql_slice_nil (P := Try.prog) w 24 5 A n c 0 0 Try.underlying24
  cases A with
  | none =>
    obtain rfl : l = [] := by
      cases l with
      | nil => rfl
      | cons x l =>
        obtain ⟨ad, _, h, _⟩ := Kd.C_get hr 0 0 (by omega) (by simp)
        cases h
    clear hr
    go_enter Try.func15, Try.ntmps15
    go_wp2
    go_ret
    exact ⟨_, rfl, Kd.R_nil _ _ _ _ _, Below.refl _ _⟩
  | some ad =>
    clear hr
    go_enter Try.func15, Try.ntmps15
    go_wp2_with (first | (refine lit_none (w0 := w) (N := 5) w.heap.size rfl rfl rfl (Below.refl _ _) (Nat.le_refl _) ?_; intro v1 w1 ho1 hb1 hg1; have HO := Lib.hid ho1; have HB := Lib.hid hb1; clear ho1 hb1 hg1) | (at_builtin; refine app_row (w0 := w) w.heap.size rfl (.tmp 5) (.tmp 6) rfl v1 [] l (some ad) l.length c rfl rfl HO.out (Kd.C_below HR.out HB.out) HB.out HB.out.size (by simpa using hl) ?_; intro v2 w2 ho2 hb2 hg2 _; have HO2 := Lib.hid ho2; have HB2 := Lib.hid hb2; clear ho2 hb2 hg2))
    go_ret
    exact ⟨_, rfl, HO2.out, HB2.out⟩
end Go.Proofs.Ytbnlkecjcgknhaa
