-- WRITTEN BY A PROGRAM OF THIS PLACE (wip/tools/pp.sh: the print, turned for functions proved by hand). Lean checks it.
import Derived.Test.YtlhgkmfcfdjngaaF0
import Derived.Test.YtlhgkmfcfdjngaaF1
import Derived.Test.YtlhgkmfcfdjngaaHex
namespace Go.Proofs.Ytlhgkmfcfdjngaa.F
open Go.RowKit Go.Proofs.YtlhgkmfcfdjngaaW.PrintWords Go.Proofs.YtlhgkmfcfdjngaaW.PrintLast Go.Proofs.YtlhgkmfcfdjngaaW.PrintMore
attribute [local go_sem] max2_int min2_int max_two min_two max_three min_three max_four min_four   -- for this text's walks alone
set_option linter.unusedVariables false
set_option linter.unusedSimpArgs false

/-! ### sawyerlaw01_ShaHexes: function 3 -/
def sawyerlaw01_ShaHexes.f (k : Nat) (a0 : ByteArray) : Option (Bool) := (sha_Hex.f a0).bind fun t107 => (if (t107.size : Int) = (wrap64 (2 * (a0.size : Int))) then ((sawyerref01_Hex.f k a0).bind fun t108 => (if t107.toList = t108.toList then ((sha_Hex.f (⟨#[15]⟩ : ByteArray)).bind fun t109 => (some (t109.toList == ([48, 102] : List UInt8)))) else (some false))) else (some false))
theorem sawyerlaw01_ShaHexes.mono : ∀ a0 k, LeO (sawyerlaw01_ShaHexes.f k a0) (sawyerlaw01_ShaHexes.f (k + 1) a0) := by
  intro a0 k
  unfold sawyerlaw01_ShaHexes.f
  repeat' first
      | (with_reducible exact sawyerref01_Hex.mono _ _)
      | (with_reducible exact LeO.refl _)
      | (with_reducible exact LeO.none _)
      | (with_reducible refine LeO.ite ?_ ?_)
      | (with_reducible refine LeO.bind ?_ (fun _ => ?_))
      | exact sawyerref01_Hex.mono _ _
      | exact LeO.none _
      | refine LeO.ite ?_ ?_
      | refine LeO.bind ?_ (fun _ => ?_)
set_option maxHeartbeats 8000000 in
set_option maxRecDepth 100000 in
theorem sawyerlaw01_ShaHexes.calls (k : Nat) (a0 : ByteArray) (r : Bool) (w : World) (h : sawyerlaw01_ShaHexes.f k a0 = some r) :
    Calls Try.prog 3 #[.string a0] w fun e w' => e = .returned (.bool r) ∧ Below w.heap.size w w' := by
  have HB := Aside0.mk (Below.refl w.heap.size w)
  have H : ((sha_Hex.f a0).bind fun t107 => (if (t107.size : Int) = (wrap64 (2 * (a0.size : Int))) then ((sawyerref01_Hex.f k a0).bind fun t108 => (if t107.toList = t108.toList then ((sha_Hex.f (⟨#[15]⟩ : ByteArray)).bind fun t109 => (some (t109.toList == ([48, 102] : List UInt8)))) else (some false))) else (some false))) = some r := h
  clear h
  replace H := Option.bind_eq_some_iff.mp H
  obtain ⟨t107, A20, H⟩ := H
  replace H : (if (t107.size : Int) = (wrap64 (2 * (a0.size : Int))) then ((sawyerref01_Hex.f k a0).bind fun t108 => (if t107.toList = t108.toList then ((sha_Hex.f (⟨#[15]⟩ : ByteArray)).bind fun t109 => (some (t109.toList == ([48, 102] : List UInt8)))) else (some false))) else (some false)) = some r := H
  have A2 := Aside0.mk A20
  clear A20
  by_cases c3 : (t107.size : Int) = (wrap64 (2 * (a0.size : Int)))
  · rw [if_pos c3] at H
    have c3b0 : ((t107.size : Int) == (wrap64 (2 * (a0.size : Int)))) = true := beq_iff_eq.mpr c3
    have c3b1 : ((t107.size : Int) != (wrap64 (2 * (a0.size : Int)))) = false := bne_eq_false_iff_eq.mpr c3
    clear c3
    replace H := Option.bind_eq_some_iff.mp H
    obtain ⟨t108, A40, H⟩ := H
    replace H : (if t107.toList = t108.toList then ((sha_Hex.f (⟨#[15]⟩ : ByteArray)).bind fun t109 => (some (t109.toList == ([48, 102] : List UInt8)))) else (some false)) = some r := H
    have A4 := Aside0.mk A40
    clear A40
    by_cases c5 : t107.toList = t108.toList
    · rw [if_pos c5] at H
      have c5b0 : (t107.toList == t108.toList) = true := beq_iff_eq.mpr c5
      have c5b1 : (t107.toList != t108.toList) = false := bne_eq_false_iff_eq.mpr c5
      clear c5
      replace H := Option.bind_eq_some_iff.mp H
      obtain ⟨t109, A60, H⟩ := H
      replace H : (some (t109.toList == ([48, 102] : List UInt8))) = some r := H
      have A6 := Aside0.mk A60
      clear A60
      obtain rfl := Option.some.inj H
      go_enter Try.func3, Try.ntmps3
      go_wp2_with (first | ((with_reducible refine gate_callee (f := 9) rfl ?_); refine goesL_ (some 5) rfl rfl Try.func9 (by kernel_rfl) rfl #[.string a0] rfl (by (try simp only [List.map_toArray, List.map_cons, List.map_nil]); first | done | rfl | (simp only [List.length_drop, List.length_take]; rfl)) ?_; (with_reducible refine (sha_Hex.calls a0 t107 _ A2.out).mono ?_); rintro e w7 ⟨rfl, hb⟩; refine ⟨_, rfl, ?_⟩; have n0_ := Aside0.mk (below_step (by repeat (first | (with_reducible first | exact HB.out | apply below_alloc | apply pw_below_drewN | apply below_drew1) | exact HB.out)) hb); clear HB; have HB := n0_; clear n0_; (try clear hb); (try clear hb2); (try clear hk); (try clear hi)) | (go_at_call 10; (with_reducible refine (sawyerref01_Hex.calls k a0 t108 _ A4.out).mono ?_); rintro e w8 ⟨rfl, hb⟩; have n0_ := Aside0.mk (below_step (by repeat (first | (with_reducible first | exact HB.out | apply below_alloc | apply pw_below_drewN | apply below_drew1) | exact HB.out)) hb); clear HB; have HB := n0_; clear n0_; (try clear hb); (try clear hb2); (try clear hk); (try clear hi)) | (go_at_call 9; (with_reducible refine (sha_Hex.calls (⟨#[15]⟩ : ByteArray) t109 _ A6.out).mono ?_); rintro e w9 ⟨rfl, hb⟩; have n0_ := Aside0.mk (below_step (by repeat (first | (with_reducible first | exact HB.out | apply below_alloc | apply pw_below_drewN | apply below_drew1) | exact HB.out)) hb); clear HB; have HB := n0_; clear n0_; (try clear hb); (try clear hb2); (try clear hk); (try clear hi)))
      go_ret
      exact ⟨by first | rfl | (simp [errW_none, errW_some] <;> rfl) | (simp [*, errW_none, errW_some] <;> rfl), by repeat (first | (with_reducible first | exact HB.out | apply below_alloc | apply pw_below_drewN | apply below_drew1) | exact HB.out)⟩
    · rw [if_neg c5] at H
      have c5b0 : (t107.toList == t108.toList) = false := beq_eq_false_iff_ne.mpr c5
      have c5b1 : (t107.toList != t108.toList) = true := bne_iff_ne.mpr c5
      obtain rfl := Option.some.inj H
      go_enter Try.func3, Try.ntmps3
      go_wp2_with (first | ((with_reducible refine gate_callee (f := 9) rfl ?_); refine goesL_ (some 5) rfl rfl Try.func9 (by kernel_rfl) rfl #[.string a0] rfl (by (try simp only [List.map_toArray, List.map_cons, List.map_nil]); first | done | rfl | (simp only [List.length_drop, List.length_take]; rfl)) ?_; (with_reducible refine (sha_Hex.calls a0 t107 _ A2.out).mono ?_); rintro e w10 ⟨rfl, hb⟩; refine ⟨_, rfl, ?_⟩; have n0_ := Aside0.mk (below_step (by repeat (first | (with_reducible first | exact HB.out | apply below_alloc | apply pw_below_drewN | apply below_drew1) | exact HB.out)) hb); clear HB; have HB := n0_; clear n0_; (try clear hb); (try clear hb2); (try clear hk); (try clear hi)) | (go_at_call 10; (with_reducible refine (sawyerref01_Hex.calls k a0 t108 _ A4.out).mono ?_); rintro e w11 ⟨rfl, hb⟩; have n0_ := Aside0.mk (below_step (by repeat (first | (with_reducible first | exact HB.out | apply below_alloc | apply pw_below_drewN | apply below_drew1) | exact HB.out)) hb); clear HB; have HB := n0_; clear n0_; (try clear hb); (try clear hb2); (try clear hk); (try clear hi)))
      go_ret
      exact ⟨by first | rfl | (simp [errW_none, errW_some] <;> rfl) | (simp [*, errW_none, errW_some] <;> rfl), by repeat (first | (with_reducible first | exact HB.out | apply below_alloc | apply pw_below_drewN | apply below_drew1) | exact HB.out)⟩
  · rw [if_neg c3] at H
    have c3b0 : ((t107.size : Int) == (wrap64 (2 * (a0.size : Int)))) = false := beq_eq_false_iff_ne.mpr c3
    have c3b1 : ((t107.size : Int) != (wrap64 (2 * (a0.size : Int)))) = true := bne_iff_ne.mpr c3
    obtain rfl := Option.some.inj H
    go_enter Try.func3, Try.ntmps3
    go_wp2_with (first | ((with_reducible refine gate_callee (f := 9) rfl ?_); refine goesL_ (some 5) rfl rfl Try.func9 (by kernel_rfl) rfl #[.string a0] rfl (by (try simp only [List.map_toArray, List.map_cons, List.map_nil]); first | done | rfl | (simp only [List.length_drop, List.length_take]; rfl)) ?_; (with_reducible refine (sha_Hex.calls a0 t107 _ A2.out).mono ?_); rintro e w12 ⟨rfl, hb⟩; refine ⟨_, rfl, ?_⟩; have n0_ := Aside0.mk (below_step (by repeat (first | (with_reducible first | exact HB.out | apply below_alloc | apply pw_below_drewN | apply below_drew1) | exact HB.out)) hb); clear HB; have HB := n0_; clear n0_; (try clear hb); (try clear hb2); (try clear hk); (try clear hi)))
    go_ret
    exact ⟨by first | rfl | (simp [errW_none, errW_some] <;> rfl) | (simp [*, errW_none, errW_some] <;> rfl), by repeat (first | (with_reducible first | exact HB.out | apply below_alloc | apply pw_below_drewN | apply below_drew1) | exact HB.out)⟩

end Go.Proofs.Ytlhgkmfcfdjngaa.F
