-- JOINED BY A PROGRAM OF THIS PLACE (wip/tools/pack.py) out of: F27 F28 TSplitP
import Derived.Test.YtopacnaiedlaaaaDoorK6
import Derived.Test.YtopacnaiedlaaaaDoorK10
import Derived.Test.YtopacnaiedlaaaaDoorK16
section
-- WRITTEN BY A PROGRAM OF THIS PLACE (wip/tools/pp.sh: the print, turned for functions proved by hand). Lean checks it.
namespace Go.Proofs.YtopacnaiedlaaaaDoor.F
open Go.RowKit Go.Proofs.YtopacnaiedlaaaaDoorW.PrintWords Go.Proofs.YtopacnaiedlaaaaDoorW.PrintLast Go.Proofs.YtopacnaiedlaaaaDoorW.PrintMore
attribute [local go_sem] max2_int min2_int max_two min_two max_three min_three max_four min_four   -- for this text's walks alone
set_option linter.unusedVariables false
set_option linter.unusedSimpArgs false
/-! ### tile_Cover: function 13 -/
mutual
def tile_Cover.j0 : Nat → Int → Int → Bool → Option ((List (S29)) × Int)
  | 0, _, _, _ => none
  | k + 1, x0, x1, x32 => if x32 = true then (some (([] : List (S29)), 8)) else (tile_Cover.l0 k x0 ([] : List (S29)) (IntKind.u64.wrap (wrap64 (x1 - x0))))
def tile_Cover.l0 : Nat → Int → List (S29) → Int → Option ((List (S29)) × Int)
  | 0, _, _, _ => none
  | k + 1, x0, x6, x7 => if x7 > 0 then ((bits_Len.f x7).bind fun t106 => (if 0 ≤ (wrap64 (t106 - 1)) then (if x6.length < 8796093022208 then (tile_Cover.l0 k (wrap64 (x0 + (shl .i64 1 (wrap64 (t106 - 1))))) (x6 ++ [(⟨wrap64 (t106 - 1), shr .i64 x0 (wrap64 (t106 - 1))⟩ : S29)]) (IntKind.u64.wrap (x7 - (shl .u64 1 (wrap64 (t106 - 1)))))) else (none)) else (none))) else (some (x6, 0))
end
def tile_Cover.f (k : Nat) (a0 : Int) (a1 : Int) : Option ((List (S29)) × Int) := if a0 < 0 then (tile_Cover.j0 k a0 a1 true) else (if a0 ≥ a1 then (tile_Cover.j0 k a0 a1 true) else (if a1 > 1099511627776 then (tile_Cover.j0 k a0 a1 true) else ((bits_Len.f (IntKind.u64.wrap (wrap64 ((wrap64 (a1 - a0)) - 1)))).bind fun t105 => (if 0 ≤ t105 then (tile_Cover.j0 k a0 a1 ((Go.bits .and .i64 a0 (wrap64 ((shl .i64 1 t105) - 1))) != 0)) else (none)))))
set_option maxHeartbeats 8000000 in
set_option maxRecDepth 100000 in
theorem tile_Cover.calls (k : Nat) (a0 : Int) (a1 : Int) (r1 : List (S29)) (r2 : Int) (w : World) (h : tile_Cover.f k a0 a1 = some (r1, r2)) :
    Calls Tryd.prog 13 #[.int .i64 a0, .int .i64 a1] w fun e w' => ∃ v0_ : Value, e = .returned (.tuple #[v0_, .int .i64 r2]) ∧ Kd.R k29 29 w' w.heap.size (fun _ => True) v0_ r1 ∧ Below w.heap.size w w' := by
  (have hu29 := Tryd.underlying29); (have HB := Aside0.mk (Below.refl w.heap.size w)); (have H : (if a0 < 0 then (tile_Cover.j0 k a0 a1 true) else (if a0 ≥ a1 then (tile_Cover.j0 k a0 a1 true) else (if a1 > 1099511627776 then (tile_Cover.j0 k a0 a1 true) else ((bits_Len.f (IntKind.u64.wrap (wrap64 ((wrap64 (a1 - a0)) - 1)))).bind fun t105 => (if 0 ≤ t105 then (tile_Cover.j0 k a0 a1 ((Go.bits .and .i64 a0 (wrap64 ((shl .i64 1 t105) - 1))) != 0)) else (none)))))) = some (r1, r2) := h); (clear h); (have HC3 := Aside0.mk H); (clear H); (go_enter Tryd.func13, Tryd.ntmps13); (go_upto_region 1 with (fail)); (go_cut [32] (fun v32 wc => ∃ (kq : Nat) (x32_2 : Bool), v32 = .bool x32_2 ∧ Aside0 (tile_Cover.j0 kq a0 a1 x32_2 = some (r1, r2)) ∧ Aside0 (kq ≤ k) ∧ Aside0 (Below w.heap.size w wc)))
  case first =>
    (have H := HC3.out); (clear HC3); (by_cases c4 : a0 < 0)
    · (rw [if_pos c4] at H); (have c4b0 : decide (a0 < 0) = true := decide_eq_true c4); (clear c4); ((first | rw [c4b0] | (simp only [i64_w, i32_w]; rw [c4b0]) | skip)); (have H' := Aside0.mk H); (clear H); (go_wp2); (go_meet)
      case rel => exact ⟨_, (true), (by first | rfl | (simp; done) | (simp [*]; done)), H', ⟨by first | omega | exact Nat.le_refl _⟩, ⟨by repeat (first | (with_reducible first | exact HB.out | apply below_alloc | apply pw_below_drewN | apply below_drew1) | exact HB.out)⟩⟩
    · (rw [if_neg c4] at H); (have c4b0 : decide (a0 < 0) = false := decide_eq_false c4); (clear c4); ((first | rw [c4b0] | (simp only [i64_w, i32_w]; rw [c4b0]) | skip)); (by_cases c5 : a0 ≥ a1)
      · (rw [if_pos c5] at H); (have c5b0 : decide (a1 ≤ a0) = true := decide_eq_true c5); (clear c5); (have H' := Aside0.mk H); (clear H); (go_wp2); (go_meet)
        case rel => exact ⟨_, (true), (by first | rfl | (simp; done) | (simp [*]; done)), H', ⟨by first | omega | exact Nat.le_refl _⟩, ⟨by repeat (first | (with_reducible first | exact HB.out | apply below_alloc | apply pw_below_drewN | apply below_drew1) | exact HB.out)⟩⟩
      · (rw [if_neg c5] at H); (have c5b0 : decide (a1 ≤ a0) = false := decide_eq_false c5); (clear c5); (by_cases c6 : a1 > 1099511627776)
        · (rw [if_pos c6] at H); (have c6b0 : decide (1099511627776 < a1) = true := decide_eq_true c6); (clear c6); (have H' := Aside0.mk H); (clear H); (go_wp2); (go_meet)
          case rel => exact ⟨_, (true), (by first | rfl | (simp; done) | (simp [*]; done)), H', ⟨by first | omega | exact Nat.le_refl _⟩, ⟨by repeat (first | (with_reducible first | exact HB.out | apply below_alloc | apply pw_below_drewN | apply below_drew1) | exact HB.out)⟩⟩
        · (rw [if_neg c6] at H); (have c6b0 : decide (1099511627776 < a1) = false := decide_eq_false c6); (clear c6); (replace H := Option.bind_eq_some_iff.mp H); (obtain ⟨t105, A70, H⟩ := H); (replace H : (if 0 ≤ t105 then (tile_Cover.j0 k a0 a1 ((Go.bits .and .i64 a0 (wrap64 ((shl .i64 1 t105) - 1))) != 0)) else (none)) = some (r1, r2) := H); (have A7 := Aside0.mk A70); (clear A70); (by_cases c8 : 0 ≤ t105)
          · (rw [if_pos c8] at H); (have c8b0 := eq_true c8); (have c8b1 : decide (0 ≤ t105) = true := decide_eq_true c8); (clear c8); (obtain ⟨ji9, hji9⟩ : ∃ j_ : Int, (shl .i64 1 t105) = j_ := ⟨_, rfl⟩); (replace H : (tile_Cover.j0 k a0 a1 ((Go.bits .and .i64 a0 (wrap64 ((ji9) - 1))) != 0)) = some (r1, r2) := by first | (rw [hji9] at H; exact H) | (simp only [hji9] at H ⊢; exact H)); ((try rw [hji9] at A7)); (have hji9_ : (IntKind.i64.wrap (1 * 2 ^ min t105.toNat 64)) = ji9 := hji9); (have hji9z : t105 ≤ 64 → (IntKind.i64.wrap (1 * 2 ^ t105.toNat)) = ji9 := shl_small hji9); (have hji9u : (IntKind.i64.wrap (2 ^ min t105.toNat 64)) = ji9 := by have h_ := hji9_; rw [Int.one_mul] at h_; exact h_); (have hji9v : t105 ≤ 64 → (IntKind.i64.wrap (2 ^ t105.toNat)) = ji9 := fun hle_ => by have h_ := hji9z hle_; rw [Int.one_mul] at h_; exact h_); (have hji9y : (wrap64 (1 * 2 ^ min t105.toNat 64)) = ji9 := (i64_w _).symm.trans hji9_); (have hji9x : t105 ≤ 64 → (wrap64 (1 * 2 ^ t105.toNat)) = ji9 := fun h_ => (i64_w _).symm.trans (hji9z h_)); (have H' := Aside0.mk H); (clear H); (go_wp2_with (first | (go_at_call 29; (with_reducible refine (bits_Len.calls (IntKind.u64.wrap (wrap64 ((wrap64 (a1 - a0)) - 1))) t105 _ A7.out).mono ?_); rintro e w10 ⟨rfl, hb⟩; have n0_ := Aside0.mk (below_step (by repeat (first | (with_reducible first | exact HB.out | apply below_alloc | apply pw_below_drewN | apply below_drew1) | exact HB.out)) hb); clear HB; have HB := n0_; clear n0_; (try clear hb); (try clear hb2); (try clear hk); (try clear hi)))); (go_meet)
            case rel => exact ⟨_, (((Go.bits .and .i64 a0 (wrap64 ((ji9) - 1))) != 0)), (by first | rfl | (simp; done) | (simp only [← hji9] <;> (first | rfl | simp)) | (simp [*]; done)), H', ⟨by first | omega | exact Nat.le_refl _⟩, ⟨by repeat (first | (with_reducible first | exact HB.out | apply below_alloc | apply pw_below_drewN | apply below_drew1) | exact HB.out)⟩⟩
          focus ((rw [if_neg c8] at H); (exact absurd H (by simp)))
  case rest =>
    (clear HC3); (try clear c1); (try clear p2); (try clear c4); (try clear c4b0); (try clear c5); (try clear c5b0); (try clear c6); (try clear c6b0); (try clear p6); (try clear c8); (try clear c8b0); (try clear c8b1); (obtain ⟨kq, x32_2, rfl, HA, HJ2, HB⟩ := hcut)
    cases kq with
    | zero => exact absurd HA.out (by simp [tile_Cover.j0])
    | succ kj2 =>
      (have H := HA.out); (clear HA); (simp only [tile_Cover.j0] at H); (by_cases c11 : x32_2 = true); (focus ((subst c11); (have H1 : (some (([] : List (S29)), 8)) = some (r1, r2) := by rw [if_pos rfl] at H; exact H); (clear H); (have H := H1); (clear H1); (simp only [Option.some.injEq, Prod.mk.injEq] at H); (obtain ⟨rfl, rfl⟩ := H); (go_wp2); (go_ret2); (exact ⟨_, by first | rfl | (simp [errW_none, errW_some] <;> rfl) | (simp [*, errW_none, errW_some] <;> rfl), by first | exact Kd.R_nil _ _ _ _ _ | exact Kd.N_nil _ _ _ _ _ | exact Kd.V_nil _ _ _ _ _ | exact Kd.Q_nil _ _ _ _ _ | exact Kd.S_nil _ _ _ _ _, by repeat (first | (with_reducible first | exact HB.out | apply below_alloc | apply pw_below_drewN | apply below_drew1) | exact HB.out)⟩)))
      · (replace c11 := Bool.eq_false_iff.mpr c11); (subst c11); (have H1 : (tile_Cover.l0 kj2 a0 ([] : List (S29)) (IntKind.u64.wrap (wrap64 (a1 - a0)))) = some (r1, r2) := by rw [if_neg (show ¬ (false = true) by decide)] at H; exact H); (clear H); (have H := H1); (clear H1); (have H' := Aside0.mk H); (clear H); (go_wp2); (go_loopg [0, 6, 7] kj2 (fun kq v0 v6 v7 w' => ∃ (x0_2 : Int) (x6_2 : List (S29)) (x7_2 : Int), v0 = .int .i64 x0_2 ∧ v7 = .int .u64 x7_2 ∧ Aside0 (tile_Cover.l0 kq x0_2 x6_2 x7_2 = some (r1, r2)) ∧ Aside0 (kq ≤ kj2) ∧ Aside0 (Kd.R k29 29 w' w.heap.size (fun _ => True) v6 x6_2) ∧ Aside0 (Below w.heap.size w w')))
        case atStart => exact ⟨(a0), (([] : List (S29))), (IntKind.u64.wrap (wrap64 (a1 - a0))), (by first | rfl | (simp; done) | (simp [*]; done)), (by first | rfl | (simp; done) | (simp [*]; done)), H', ⟨Nat.le_refl _⟩, ⟨by first | exact Kd.R_nil _ _ _ _ _ | exact Kd.N_nil _ _ _ _ _ | exact Kd.V_nil _ _ _ _ _ | exact Kd.Q_nil _ _ _ _ _ | exact Kd.S_nil _ _ _ _ _⟩, ⟨by repeat (first | (with_reducible first | exact HB.out | apply below_alloc | apply pw_below_drewN | apply below_drew1) | exact HB.out)⟩⟩
        case round =>
          (clear H'); (try clear c1); (try clear p2); (try clear c4); (try clear c4b0); (try clear c5); (try clear c5b0); (try clear c6); (try clear c6b0); (try clear p6); (try clear c8); (try clear c8b0); (try clear c8b1); (try clear c11); (try clear p2); (try clear p6); (obtain ⟨x0_2, x6_2, x7_2, rfl, rfl, HA, HK2, HO_6, HB⟩ := hrel)
          cases gk with
          | zero => exact absurd HA.out (by simp [tile_Cover.l0])
          | succ k2 =>
            (have H := HA.out); (clear HA); (simp only [tile_Cover.l0] at H); (by_cases c12 : x7_2 > 0)
            · (rw [if_pos c12] at H); (have c12b0 : decide (0 < x7_2) = true := decide_eq_true c12); (clear c12); (replace H := Option.bind_eq_some_iff.mp H); (obtain ⟨t106, A130, H⟩ := H); (replace H : (if 0 ≤ (wrap64 (t106 - 1)) then (if x6_2.length < 8796093022208 then (tile_Cover.l0 k2 (wrap64 (x0_2 + (shl .i64 1 (wrap64 (t106 - 1))))) (x6_2 ++ [(⟨wrap64 (t106 - 1), shr .i64 x0_2 (wrap64 (t106 - 1))⟩ : S29)]) (IntKind.u64.wrap (x7_2 - (shl .u64 1 (wrap64 (t106 - 1)))))) else (none)) else (none)) = some (r1, r2) := H); (have A13 := Aside0.mk A130); (clear A130); (obtain ⟨ji14, hji14⟩ : ∃ j_ : Int, (wrap64 (t106 - 1)) = j_ := ⟨_, rfl⟩); (replace H : (if 0 ≤ (ji14) then (if x6_2.length < 8796093022208 then (tile_Cover.l0 k2 (wrap64 (x0_2 + (shl .i64 1 (ji14)))) (x6_2 ++ [(⟨ji14, shr .i64 x0_2 (ji14)⟩ : S29)]) (IntKind.u64.wrap (x7_2 - (shl .u64 1 (ji14))))) else (none)) else (none)) = some (r1, r2) := by first | (rw [hji14] at H; exact H) | (simp only [hji14] at H ⊢; exact H)); ((try rw [hji14] at A13)); (have hji14w : (IntKind.i64.wrap (t106 - 1)) = ji14 := (i64_w _).trans hji14); (by_cases c15 : 0 ≤ (ji14))
              · (rw [if_pos c15] at H); (have c15b0 := eq_true c15); (have c15b1 : decide (0 ≤ (ji14)) = true := decide_eq_true c15); (clear c15); (obtain ⟨ji16, hji16⟩ : ∃ j_ : Int, (shr .i64 x0_2 (ji14)) = j_ := ⟨_, rfl⟩); (replace H : (if x6_2.length < 8796093022208 then (tile_Cover.l0 k2 (wrap64 (x0_2 + (shl .i64 1 (ji14)))) (x6_2 ++ [(⟨ji14, ji16⟩ : S29)]) (IntKind.u64.wrap (x7_2 - (shl .u64 1 (ji14))))) else (none)) = some (r1, r2) := by first | (rw [hji16] at H; exact H) | (simp only [hji16] at H ⊢; exact H)); ((try rw [hji16] at A13)); (have hji16_ : (x0_2 / 2 ^ min (ji14).toNat 64) = ji16 := hji16); (have hji16z : (ji14) ≤ 64 → (x0_2 / 2 ^ (ji14).toNat) = ji16 := shr_small hji16); (by_cases c17 : x6_2.length < 8796093022208)
                · (rw [if_pos c17] at H); (have LMc17 := Aside0.mk c17); (clear c17); (obtain ⟨y107, hy107⟩ : ∃ y_ : List (S29), y_ = (x6_2 ++ [(⟨ji14, ji16⟩ : S29)]) := ⟨_, rfl⟩); (replace H : (tile_Cover.l0 k2 (wrap64 (x0_2 + (shl .i64 1 (ji14)))) y107 (IntKind.u64.wrap (x7_2 - (shl .u64 1 (ji14))))) = some (r1, r2) := by first | (rw [hy107]; with_reducible exact H) | (have H2_ := (Option.bind_some _ _).symm.trans H; rw [hy107]; with_reducible exact H2_) | (have H2_ := (Option.bind_some _ _).symm.trans H; with_reducible exact H2_) | with_reducible exact H | (rw [hy107]; exact H) | exact H); (have Ny107 := Aside0.mk hy107); (clear hy107); (have c18b0 := eq_true (of_decide_eq_true (by first | (with_reducible assumption) | assumption) : 0 ≤ (ji14))); (obtain ⟨ji19, hji19⟩ : ∃ j_ : Int, (shl .i64 1 (ji14)) = j_ := ⟨_, rfl⟩); (replace H : (tile_Cover.l0 k2 (wrap64 (x0_2 + (ji19))) y107 (IntKind.u64.wrap (x7_2 - (shl .u64 1 (ji14))))) = some (r1, r2) := by first | (rw [hji19] at H; exact H) | (simp only [hji19] at H ⊢; exact H)); ((try rw [hji19] at A13)); (have hji19_ : (IntKind.i64.wrap (1 * 2 ^ min (ji14).toNat 64)) = ji19 := hji19); (have hji19z : (ji14) ≤ 64 → (IntKind.i64.wrap (1 * 2 ^ (ji14).toNat)) = ji19 := shl_small hji19); (have hji19u : (IntKind.i64.wrap (2 ^ min (ji14).toNat 64)) = ji19 := by have h_ := hji19_; rw [Int.one_mul] at h_; exact h_); (have hji19v : (ji14) ≤ 64 → (IntKind.i64.wrap (2 ^ (ji14).toNat)) = ji19 := fun hle_ => by have h_ := hji19z hle_; rw [Int.one_mul] at h_; exact h_); (have hji19y : (wrap64 (1 * 2 ^ min (ji14).toNat 64)) = ji19 := (i64_w _).symm.trans hji19_); (have hji19x : (ji14) ≤ 64 → (wrap64 (1 * 2 ^ (ji14).toNat)) = ji19 := fun h_ => (i64_w _).symm.trans (hji19z h_)); (have c20b0 := eq_true (of_decide_eq_true (by first | (with_reducible assumption) | assumption) : 0 ≤ (ji14))); (obtain ⟨ji21, hji21⟩ : ∃ j_ : Int, (shl .u64 1 (ji14)) = j_ := ⟨_, rfl⟩); (replace H : (tile_Cover.l0 k2 (wrap64 (x0_2 + (ji19))) y107 (IntKind.u64.wrap (x7_2 - (ji21)))) = some (r1, r2) := by first | (rw [hji21] at H; exact H) | (simp only [hji21] at H ⊢; exact H)); ((try rw [hji21] at A13)); (have hji21_ : (IntKind.u64.wrap (1 * 2 ^ min (ji14).toNat 64)) = ji21 := hji21); (have hji21z : (ji14) ≤ 64 → (IntKind.u64.wrap (1 * 2 ^ (ji14).toNat)) = ji21 := shl_small hji21); (have hji21u : (IntKind.u64.wrap (2 ^ min (ji14).toNat 64)) = ji21 := by have h_ := hji21_; rw [Int.one_mul] at h_; exact h_); (have hji21v : (ji14) ≤ 64 → (IntKind.u64.wrap (2 ^ (ji14).toNat)) = ji21 := fun hle_ => by have h_ := hji21z hle_; rw [Int.one_mul] at h_; exact h_); (have H' := Aside0.mk H); (clear H); (go_wp2_with (first | ((with_reducible refine gate_callee (f := 29) rfl ?_); refine goesL_ (some 40) rfl rfl Tryd.func29 (by kernel_rfl) rfl #[.int .u64 x7_2] rfl (by (try simp only [List.map_toArray, List.map_cons, List.map_nil]); first | done | rfl | (simp only [List.length_drop, List.length_take]; rfl)) ?_; (with_reducible refine (bits_Len.calls x7_2 t106 _ A13.out).mono ?_); rintro e w22 ⟨rfl, hb⟩; refine ⟨_, rfl, ?_⟩; have n0_ := Aside0.mk (Kd.R_below (by (with_reducible repeat (first | apply Kd.R_alloc | apply Kd.R_drewN | apply Kd.R_drew)); exact HO_6.out) hb); have n1_ := Aside0.mk (below_step (by repeat (first | (with_reducible first | exact HB.out | apply below_alloc | apply pw_below_drewN | apply below_drew1) | exact HB.out)) hb); clear HO_6; clear HB; have HO_6 := n0_; have HB := n1_; clear n0_ n1_; (try clear hb); (try clear hb2); (try clear hk); (try clear hi)) | ((with_reducible refine gate_builtin (b := .append) (xs := #[.tmp 42, .tmp 48]) rfl ?_); at_builtin; refine Kd.R_append k29 (w0 := w) w.heap.size rfl (.tmp 42) (.tmp 48) 24 29 (.agg #[(.int .i64 0), (.int .i64 0)]) 16 rfl Tryd.underlying24 info29 rfl (by decide) (by omega) u6 x6_2 (⟨ji14, ji16⟩ : S29) [.int .i64 ji14, .int .i64 ji16] (fun _ => True) (fun _ => False) rfl rfl ?aP (fun _ hk => hk.elim) ?aF ?aO ?aB ?aS ?aL ?_; (case aP => exact k29_mkM _ _ _ (⟨ji14, ji16⟩ : S29)); (case aB => exact (by repeat (first | (with_reducible first | exact HB.out | apply below_alloc | apply pw_below_drewN | apply below_drew1) | exact HB.out))); (case aF => exact (fun _ _ => trivial)); (case aO => exact (by (with_reducible repeat (first | apply Kd.R_alloc | apply Kd.R_drewN | apply Kd.R_drew)); exact HO_6.out)); (case aS => exact (below_size (by repeat (first | (with_reducible first | exact HB.out | apply below_alloc | apply pw_below_drewN | apply below_drew1) | exact HB.out)))); (case aL => have := LMc17.out; omega); intro v108 w23 ho hb hg hat; rw [← Ny107.out] at ho; have n0_ := Aside0.mk (hb); have n1_ := Aside0.mk (ho); clear HB; clear HO_6; have HB := n0_; have HO109 := n1_; clear n0_ n1_; clear ho hb hg hat))); (go_roundg k2)
                  case measure => have := HJ2.out; have := HK2.out; omega
                  case rel => exact ⟨(wrap64 (x0_2 + (ji19))), (y107), (IntKind.u64.wrap (x7_2 - (ji21))), (by first | rfl | (simp; done) | (simp only [← hji19] <;> (first | rfl | simp)) | (simp [*]; done)), (by first | rfl | (simp; done) | (simp only [← hji21] <;> (first | rfl | simp)) | (simp [*]; done)), H', ⟨by have := HJ2.out; have := HK2.out; omega⟩, ⟨by (with_reducible repeat (first | apply Kd.R_alloc | apply Kd.R_drewN | apply Kd.R_drew)); exact HO109.out⟩, ⟨by repeat (first | (with_reducible first | exact HB.out | apply below_alloc | apply pw_below_drewN | apply below_drew1) | exact HB.out)⟩⟩
                focus ((rw [if_neg c17] at H); (exact absurd H (by simp)))
              focus ((rw [if_neg c15] at H); (exact absurd H (by simp)))
            focus ((rw [if_neg c12] at H); (have c12b0 : decide (0 < x7_2) = false := decide_eq_false c12); (clear c12); (simp only [Option.some.injEq, Prod.mk.injEq] at H); (obtain ⟨rfl, rfl⟩ := H); (go_wp2); (go_ret2); (exact ⟨_, by first | rfl | (simp [errW_none, errW_some] <;> rfl) | (simp [*, errW_none, errW_some] <;> rfl), by (with_reducible repeat (first | apply Kd.R_alloc | apply Kd.R_drewN | apply Kd.R_drew)); exact HO_6.out, by repeat (first | (with_reducible first | exact HB.out | apply below_alloc | apply pw_below_drewN | apply below_drew1) | exact HB.out)⟩))
end Go.Proofs.YtopacnaiedlaaaaDoor.F
end
section
-- WRITTEN BY A PROGRAM OF THIS PLACE (wip/tools/pp.sh: the print, turned for functions proved by hand). Lean checks it.
namespace Go.Proofs.YtopacnaiedlaaaaDoor.F
open Go.RowKit Go.Proofs.YtopacnaiedlaaaaDoorW.PrintWords Go.Proofs.YtopacnaiedlaaaaDoorW.PrintLast Go.Proofs.YtopacnaiedlaaaaDoorW.PrintMore
attribute [local go_sem] max2_int min2_int max_two min_two max_three min_three max_four min_four   -- for this text's walks alone
set_option linter.unusedVariables false
set_option linter.unusedSimpArgs false
/-! ### tile_cut: function 53 -/
def tile_cut.f (a0 : Int) (a1 : Int) : Option (Int) := (bits_Len.f (IntKind.u64.wrap (wrap64 ((wrap64 (a1 - a0)) - 1)))).bind fun t110 => (if 0 ≤ (wrap64 (t110 - 1)) then (some (wrap64 (a0 + (shl .i64 1 (wrap64 (t110 - 1)))))) else (none))
set_option maxHeartbeats 8000000 in
set_option maxRecDepth 100000 in
theorem tile_cut.calls (a0 : Int) (a1 : Int) (r : Int) (w : World) (h : tile_cut.f a0 a1 = some r) :
    Calls Tryd.prog 53 #[.int .i64 a0, .int .i64 a1] w fun e w' => e = .returned (.int .i64 r) ∧ Below w.heap.size w w' := by
  (have HB := Aside0.mk (Below.refl w.heap.size w)); (have H : ((bits_Len.f (IntKind.u64.wrap (wrap64 ((wrap64 (a1 - a0)) - 1)))).bind fun t110 => (if 0 ≤ (wrap64 (t110 - 1)) then (some (wrap64 (a0 + (shl .i64 1 (wrap64 (t110 - 1)))))) else (none))) = some r := h); (clear h); (replace H := Option.bind_eq_some_iff.mp H); (obtain ⟨t110, A30, H⟩ := H); (replace H : (if 0 ≤ (wrap64 (t110 - 1)) then (some (wrap64 (a0 + (shl .i64 1 (wrap64 (t110 - 1)))))) else (none)) = some r := H); (have A3 := Aside0.mk A30); (clear A30); (obtain ⟨ji4, hji4⟩ : ∃ j_ : Int, (wrap64 (t110 - 1)) = j_ := ⟨_, rfl⟩); (replace H : (if 0 ≤ (ji4) then (some (wrap64 (a0 + (shl .i64 1 (ji4))))) else (none)) = some r := by first | (rw [hji4] at H; exact H) | (simp only [hji4] at H ⊢; exact H)); ((try rw [hji4] at A3)); (have hji4w : (IntKind.i64.wrap (t110 - 1)) = ji4 := (i64_w _).trans hji4); (by_cases c5 : 0 ≤ (ji4)); (focus ((rw [if_pos c5] at H); (have c5b0 := eq_true c5); (have c5b1 : decide (0 ≤ (ji4)) = true := decide_eq_true c5); (clear c5); (obtain ⟨ji6, hji6⟩ : ∃ j_ : Int, (shl .i64 1 (ji4)) = j_ := ⟨_, rfl⟩); (replace H : (some (wrap64 (a0 + (ji6)))) = some r := by first | (rw [hji6] at H; exact H) | (simp only [hji6] at H ⊢; exact H)); ((try rw [hji6] at A3)); (have hji6_ : (IntKind.i64.wrap (1 * 2 ^ min (ji4).toNat 64)) = ji6 := hji6); (have hji6z : (ji4) ≤ 64 → (IntKind.i64.wrap (1 * 2 ^ (ji4).toNat)) = ji6 := shl_small hji6); (have hji6u : (IntKind.i64.wrap (2 ^ min (ji4).toNat 64)) = ji6 := by have h_ := hji6_; rw [Int.one_mul] at h_; exact h_); (have hji6v : (ji4) ≤ 64 → (IntKind.i64.wrap (2 ^ (ji4).toNat)) = ji6 := fun hle_ => by have h_ := hji6z hle_; rw [Int.one_mul] at h_; exact h_); (have hji6y : (wrap64 (1 * 2 ^ min (ji4).toNat 64)) = ji6 := (i64_w _).symm.trans hji6_); (have hji6x : (ji4) ≤ 64 → (wrap64 (1 * 2 ^ (ji4).toNat)) = ji6 := fun h_ => (i64_w _).symm.trans (hji6z h_)); (obtain rfl := Option.some.inj H); (go_enter Tryd.func53, Tryd.ntmps53); (go_wp2_with (first | ((with_reducible refine gate_callee (f := 29) rfl ?_); refine goesL_ (some 11) rfl rfl Tryd.func29 (by kernel_rfl) rfl #[.int .u64 (IntKind.u64.wrap (wrap64 ((wrap64 (a1 - a0)) - 1)))] rfl (by (try simp only [List.map_toArray, List.map_cons, List.map_nil]); first | done | rfl | (simp only [List.length_drop, List.length_take]; rfl)) ?_; (with_reducible refine (bits_Len.calls (IntKind.u64.wrap (wrap64 ((wrap64 (a1 - a0)) - 1))) t110 _ A3.out).mono ?_); rintro e w7 ⟨rfl, hb⟩; refine ⟨_, rfl, ?_⟩; have n0_ := Aside0.mk (below_step (by repeat (first | (with_reducible first | exact HB.out | apply below_alloc | apply pw_below_drewN | apply below_drew1) | exact HB.out)) hb); clear HB; have HB := n0_; clear n0_; (try clear hb); (try clear hb2); (try clear hk); (try clear hi)))); (go_ret); (exact ⟨by first | rfl | (simp [errW_none, errW_some] <;> rfl) | (simp only [← hji4, ← hji6]; first | rfl | (simp [errW_none, errW_some] <;> rfl)) | (simp [*, errW_none, errW_some] <;> rfl), by repeat (first | (with_reducible first | exact HB.out | apply below_alloc | apply pw_below_drewN | apply below_drew1) | exact HB.out)⟩))); (focus ((rw [if_neg c5] at H); (exact absurd H (by simp))))
end Go.Proofs.YtopacnaiedlaaaaDoor.F
end
section
/-
  tile.split with the two function values of tile.PathNodes: its walk; the loop is written by wip/tools/gen_tile.py out of the print of the same body with plain calls in their place.
-/
namespace Go.Proofs.YtopacnaiedlaaaaDoor.F
open Go.RowKit Go.Proofs.YtopacnaiedlaaaaDoorW.PrintWords Go.Proofs.YtopacnaiedlaaaaDoorW.PrintLast Go.Proofs.YtopacnaiedlaaaaDoorW.PrintMore Go.Proofs.YtopacnaiedlaaaaDoor
attribute [local go_sem] max2_int min2_int max_two min_two max_three min_three max_four min_four   -- for this text's walks alone
set_option linter.unusedVariables false
set_option linter.unusedSimpArgs false
theorem infoP24 : (Tryd.prog.info? 24).map (fun i => (i.zero, i.size, i.bytes)) = some (some (.slice none 0 0), 1, 24) := by kernel_rfl
def onP.f (lo hi m : Int) : Option Bool := some (decide (1 < wrap64 (hi - lo)))
def leftP.f (k m : Int) : Option Bool := some (decide (m < k))
set_option maxRecDepth 100000 in
theorem onP.calls (lo hi m : Int) (r : Bool) (b : Nat) (w : World) (hc : w.cell? ⟨b, 0, none⟩ = some (.int .i64 m)) (h : onP.f lo hi m = some r) :
    Calls Tryd.prog 32 #[.int .i64 lo, .int .i64 hi] w fun e w' => e = .returned (.bool r) ∧ w' = w := by
  obtain rfl := Option.some.inj h
  clear h
  go_enter Tryd.func32, Tryd.ntmps32
  go_wp2
  go_ret
  exact ⟨by first | rfl | (simp [*]; done), rfl⟩
set_option maxRecDepth 100000 in
theorem leftP.calls (k m : Int) (r : Bool) (b : Nat) (w : World) (hc : w.cell? ⟨b, 0, none⟩ = some (.int .i64 m)) (h : leftP.f k m = some r) :
    Calls Tryd.prog 33 #[.int .i64 k, .pointer (some ⟨b, 0, none⟩)] w fun e w' => e = .returned (.bool r) ∧ w' = w := by
  obtain rfl := Option.some.inj h
  clear h
  go_enter Tryd.func33, Tryd.ntmps33
  go_wp2
  go_ret
  exact ⟨by first | rfl | (simp [*]; done), rfl⟩
/-! ### splitP: function 31 -/
def splitP.l0 : Nat → Int → Int → Int → List (List (S29)) → Option ((List (List (S29))) × Int × Int)
  | 0, _, _, _, _ => none
  | k + 1, x2, x9, x10, x11 => (onP.f x9 x10 x2).bind fun t109 => (if t109 = true then ((tile_cut.f x9 x10).bind fun t110 => ((leftP.f t110 x2).bind fun t111 => (if t111 = true then ((tile_Cover.f k t110 x10).bind fun bt112 => (if x11.length < 5864062014805 then (splitP.l0 k x2 x9 t110 (x11 ++ [bt112.1])) else (none))) else ((tile_Cover.f k x9 t110).bind fun bt119 => (if x11.length < 5864062014805 then (splitP.l0 k x2 t110 x10 (x11 ++ [bt119.1])) else (none)))))) else (some (x11, x9, x10)))
def splitP.f (k : Nat) (a0 : Int) (a1 : Int) (a2 : Int) : Option ((List (List (S29))) × Int × Int) := splitP.l0 k a2 0 a0 ([] : List (List (S29)))
set_option maxHeartbeats 8000000 in
set_option maxRecDepth 100000 in
theorem splitP.calls (k : Nat) (a0 : Int) (a1 : Int) (a2 : Int) (r1 : List (List (S29))) (r2 : Int) (r3 : Int) (b : Nat) (w : World) (hcell : w.cell? ⟨b, 0, none⟩ = some (.int .i64 a2)) (h : splitP.f k a0 a1 a2 = some (r1, r2, r3)) :
    Calls Tryd.prog 31 #[.int .i64 a0, .func (.func 32) #[] #[], .func (.func 33) #[] #[.pointer (some ⟨b, 0, none⟩)]] w fun e w' => ∃ v0_ : Value, e = .returned (.tuple #[v0_, .int .i64 r2, .int .i64 r3]) ∧ Kd.S (Kd.slice 29 k29) 24 w' w.heap.size (fun _ => True) v0_ r1.reverse ∧ Below w.heap.size w w' := by
  have HCELL := Aside0.mk hcell
  clear hcell
  have HB := Aside0.mk (Below.refl w.heap.size w)
  have H : (splitP.l0 k a2 0 a0 ([] : List (List (S29)))) = some (r1, r2, r3) := h
  clear h
  have H' := Aside0.mk H
  clear H
  go_enter Tryd.func31, Tryd.ntmps31
  go_wp2
  go_loopg [9, 10, 11] k (fun kq v9 v10 v11 w' => ∃ (x9_1 : Int) (x10_1 : Int) (x11_1 : List (List (S29))), v9 = .int .i64 x9_1 ∧ v10 = .int .i64 x10_1 ∧ Aside0 (splitP.l0 kq a2 x9_1 x10_1 x11_1 = some (r1, r2, r3)) ∧ Aside0 (kq ≤ k) ∧ Aside0 (Kd.S (Kd.slice 29 k29) 24 w' w.heap.size (fun _ => True) v11 x11_1) ∧ Aside0 (Below w.heap.size w w'))
  case atStart => exact ⟨(0), (a0), (([] : List (List (S29)))), (by first | rfl | (simp; done) | (simp [*]; done)), (by first | rfl | (simp; done) | (simp [*]; done)), H', ⟨Nat.le_refl _⟩, ⟨by first | exact Kd.S_nil _ _ _ _ _ | exact Kd.N_nil _ _ _ _ _ | exact Kd.V_nil _ _ _ _ _ | exact Kd.Q_nil _ _ _ _ _ | exact Kd.R_nil _ _ _ _ _⟩, ⟨by repeat (first | (with_reducible first | exact HB.out | apply below_alloc | apply pw_below_drewN | apply below_drew1) | exact HB.out)⟩⟩
  case round =>
    clear H'
    try clear p2
    try clear c3
    obtain ⟨x9_1, x10_1, x11_1, rfl, rfl, HA, HK1, HO_11, HB⟩ := hrel
    cases gk with
    | zero => exact absurd HA.out (by simp [splitP.l0])
    | succ k1 =>
      have H := HA.out
      clear HA
      simp only [splitP.l0] at H
      replace H := Option.bind_eq_some_iff.mp H
      obtain ⟨t109, A40, H⟩ := H
      replace H : (if t109 = true then ((tile_cut.f x9_1 x10_1).bind fun t110 => ((leftP.f t110 a2).bind fun t111 => (if t111 = true then ((tile_Cover.f k1 t110 x10_1).bind fun bt112 => (if x11_1.length < 5864062014805 then (splitP.l0 k1 a2 x9_1 t110 (x11_1 ++ [bt112.1])) else (none))) else ((tile_Cover.f k1 x9_1 t110).bind fun bt119 => (if x11_1.length < 5864062014805 then (splitP.l0 k1 a2 t110 x10_1 (x11_1 ++ [bt119.1])) else (none)))))) else (some (x11_1, x9_1, x10_1))) = some (r1, r2, r3) := H
      have A4 := Aside0.mk A40
      clear A40
      by_cases c5 : t109 = true
      · subst c5
        have H1 : ((tile_cut.f x9_1 x10_1).bind fun t110 => ((leftP.f t110 a2).bind fun t111 => (if t111 = true then ((tile_Cover.f k1 t110 x10_1).bind fun bt112 => (if x11_1.length < 5864062014805 then (splitP.l0 k1 a2 x9_1 t110 (x11_1 ++ [bt112.1])) else (none))) else ((tile_Cover.f k1 x9_1 t110).bind fun bt119 => (if x11_1.length < 5864062014805 then (splitP.l0 k1 a2 t110 x10_1 (x11_1 ++ [bt119.1])) else (none)))))) = some (r1, r2, r3) := by rw [if_pos rfl] at H; exact H
        clear H
        have H := H1
        clear H1
        replace H := Option.bind_eq_some_iff.mp H
        obtain ⟨t110, A60, H⟩ := H
        replace H : ((leftP.f t110 a2).bind fun t111 => (if t111 = true then ((tile_Cover.f k1 t110 x10_1).bind fun bt112 => (if x11_1.length < 5864062014805 then (splitP.l0 k1 a2 x9_1 t110 (x11_1 ++ [bt112.1])) else (none))) else ((tile_Cover.f k1 x9_1 t110).bind fun bt119 => (if x11_1.length < 5864062014805 then (splitP.l0 k1 a2 t110 x10_1 (x11_1 ++ [bt119.1])) else (none))))) = some (r1, r2, r3) := H
        have A6 := Aside0.mk A60
        clear A60
        replace H := Option.bind_eq_some_iff.mp H
        obtain ⟨t111, A70, H⟩ := H
        replace H : (if t111 = true then ((tile_Cover.f k1 t110 x10_1).bind fun bt112 => (if x11_1.length < 5864062014805 then (splitP.l0 k1 a2 x9_1 t110 (x11_1 ++ [bt112.1])) else (none))) else ((tile_Cover.f k1 x9_1 t110).bind fun bt119 => (if x11_1.length < 5864062014805 then (splitP.l0 k1 a2 t110 x10_1 (x11_1 ++ [bt119.1])) else (none)))) = some (r1, r2, r3) := H
        have A7 := Aside0.mk A70
        clear A70
        by_cases c8 : t111 = true
        · subst c8
          have H1 : ((tile_Cover.f k1 t110 x10_1).bind fun bt112 => (if x11_1.length < 5864062014805 then (splitP.l0 k1 a2 x9_1 t110 (x11_1 ++ [bt112.1])) else (none))) = some (r1, r2, r3) := by rw [if_pos rfl] at H; exact H
          clear H
          have H := H1
          clear H1
          replace H := Option.bind_eq_some_iff.mp H
          obtain ⟨⟨t112, t113⟩, A90, H⟩ := H
          replace H : (if x11_1.length < 5864062014805 then (splitP.l0 k1 a2 x9_1 t110 (x11_1 ++ [t112])) else (none)) = some (r1, r2, r3) := H
          have A9 := Aside0.mk A90
          clear A90
          by_cases c10 : x11_1.length < 5864062014805
          · rw [if_pos c10] at H
            have LMc10 := Aside0.mk c10
            clear c10
            obtain ⟨y116, hy116⟩ : ∃ y_ : List (List (S29)), y_ = (x11_1 ++ [t112]) := ⟨_, rfl⟩
            replace H : (splitP.l0 k1 a2 x9_1 t110 y116) = some (r1, r2, r3) := by first | (rw [hy116]; with_reducible exact H) | (have H2_ := (Option.bind_some _ _).symm.trans H; rw [hy116]; with_reducible exact H2_) | (have H2_ := (Option.bind_some _ _).symm.trans H; with_reducible exact H2_) | with_reducible exact H | (rw [hy116]; exact H) | exact H
            have Ny116 := Aside0.mk hy116
            clear hy116
            have H' := Aside0.mk H
            clear H
            go_wp2_with (first | (go_at_call 32; (with_reducible refine (onP.calls x9_1 x10_1 a2 true b _ (pw_cell_below (by repeat (first | (with_reducible first | exact HB.out | apply below_alloc | apply pw_below_drewN | apply below_drew1) | exact HB.out)) HCELL.out) A4.out).mono ?_); rintro e w' ⟨rfl, rfl⟩) | ((with_reducible refine gate_callee (f := 53) rfl ?_); refine goesL_ (some 24) rfl rfl Tryd.func53 (by kernel_rfl) rfl #[.int .i64 x9_1, .int .i64 x10_1] rfl (by (try simp only [List.map_toArray, List.map_cons, List.map_nil]); first | done | rfl | (simp only [List.length_drop, List.length_take]; rfl)) ?_; (with_reducible refine (tile_cut.calls x9_1 x10_1 t110 _ A6.out).mono ?_); rintro e w11 ⟨rfl, hb⟩; refine ⟨_, rfl, ?_⟩; have n0_ := Aside0.mk (Kd.S_below (by (with_reducible repeat (first | apply Kd.S_alloc | apply Kd.S_drewN | apply Kd.S_drew)); exact HO_11.out) hb); have n1_ := Aside0.mk (below_step (by repeat (first | (with_reducible first | exact HB.out | apply below_alloc | apply pw_below_drewN | apply below_drew1) | exact HB.out)) hb); clear HO_11; clear HB; have HO_11 := n0_; have HB := n1_; clear n0_ n1_; (try clear hb); (try clear hb2); (try clear hk); (try clear hi)) | (go_at_call 33; (with_reducible refine (leftP.calls t110 a2 true b _ (pw_cell_below (by repeat (first | (with_reducible first | exact HB.out | apply below_alloc | apply pw_below_drewN | apply below_drew1) | exact HB.out)) HCELL.out) A7.out).mono ?_); rintro e w' ⟨rfl, rfl⟩) | ((with_reducible refine gate_callee (f := 13) rfl ?_); refine goesL_ (some 37) rfl rfl Tryd.func13 (by kernel_rfl) rfl #[.int .i64 t110, .int .i64 x10_1] rfl (by (try simp only [List.map_toArray, List.map_cons, List.map_nil]); first | done | rfl | (simp only [List.length_drop, List.length_take]; rfl)) ?_; (with_reducible refine (tile_Cover.calls k1 t110 x10_1 t112 t113 _ A9.out).mono ?_); rintro e w12 ⟨v114, rfl, ho0, hb⟩; refine ⟨_, rfl, ?_⟩; have n0_ := Aside0.mk (Kd.S_elder' (by (with_reducible repeat (first | apply Kd.S_alloc | apply Kd.S_drewN | apply Kd.S_drew)); exact HO_11.out) (Kd.R_base ho0) hb); have n1_ := Aside0.mk (Kd.R_lower ho0 (below_size (by repeat (first | (with_reducible first | exact HB.out | apply below_alloc | apply pw_below_drewN | apply below_drew1) | exact HB.out)))); have n2_ := Aside0.mk (below_step (by repeat (first | (with_reducible first | exact HB.out | apply below_alloc | apply pw_below_drewN | apply below_drew1) | exact HB.out)) hb); clear HO_11; clear HB; have HO_11 := n0_; have HO115 := n1_; have HB := n2_; clear n0_ n1_ n2_; (try clear hb); (try clear hb2); (try clear hk); (try clear hi); (try clear ho0); obtain ⟨Ao14, co14, eo14⟩ := Kd.R_slice HO115.out; subst eo14) | ((with_reducible refine gate_builtin (b := .append) (xs := #[.tmp 40, .tmp 42]) rfl ?_); at_builtin; refine Kd.S_append (Kd.slice 29 k29) (w0 := w) w.heap.size rfl (.tmp 40) (.tmp 42) 38 24 (.slice none 0 0) 24 rfl Tryd.underlying38 infoP24 rfl (by decide) (by omega) u11 x11_1 t112 [.slice Ao14 t112.length co14] (fun _ => True) (fun k_ => some k_ = (.slice Ao14 t112.length co14 : Value).ownBlock) rfl rfl ?aP (fun k_ hk_ => ((Kd.R_mono (ok' := fun k_ => ((fun _ => True)) k_ ∧ some k_ ≠ (u11 : Value).ownBlock) (Kd.R_apart' (HO115.out) (Kd.S_typed HO_11.out) (by decide)) (fun k_ hk => ⟨trivial, hk.2⟩))).1 k_ hk_.symm) ?aF ?aO ?aB ?aS ?aL ?_; (case aP => exact Kd.M_row (Kd.R_mono (Kd.R_tight rfl (Kd.R_mono (ok' := fun k_ => ((fun _ => True)) k_ ∧ some k_ ≠ (u11 : Value).ownBlock) (Kd.R_apart' (HO115.out) (Kd.S_typed HO_11.out) (by decide)) (fun k_ hk => ⟨trivial, hk.2⟩))) (fun _ h_ => h_))); (case aB => exact (by repeat (first | (with_reducible first | exact HB.out | apply below_alloc | apply pw_below_drewN | apply below_drew1) | exact HB.out))); (case aF => exact (fun _ _ => trivial)); (case aO => exact (by (with_reducible repeat (first | apply Kd.S_alloc | apply Kd.S_drewN | apply Kd.S_drew)); exact Kd.S_mono HO_11.out (fun k_ hk => ⟨trivial, fun e_ => hk.2 e_⟩))); (case aS => exact (below_size (by repeat (first | (with_reducible first | exact HB.out | apply below_alloc | apply pw_below_drewN | apply below_drew1) | exact HB.out)))); (case aL => have := LMc10.out; omega); intro v117 w13 ho hb hg hat; rw [← Ny116.out] at ho; have n0_ := Aside0.mk (hb); have n1_ := Aside0.mk (ho); clear HB; clear HO_11; clear HO115; have HB := n0_; have HO118 := n1_; clear n0_ n1_; clear ho hb hg hat))
            go_roundg k1
            case measure => have := HK1.out; omega
            case rel => exact ⟨(x9_1), (t110), (y116), (by first | rfl | (simp; done) | (simp [*]; done)), (by first | rfl | (simp; done) | (simp [*]; done)), H', ⟨by have := HK1.out; omega⟩, ⟨by (with_reducible repeat (first | apply Kd.S_alloc | apply Kd.S_drewN | apply Kd.S_drew)); exact HO118.out⟩, ⟨by repeat (first | (with_reducible first | exact HB.out | apply below_alloc | apply pw_below_drewN | apply below_drew1) | exact HB.out)⟩⟩
          · rw [if_neg c10] at H
            exact absurd H (by simp)
        · replace c8 := Bool.eq_false_iff.mpr c8
          subst c8
          have H1 : ((tile_Cover.f k1 x9_1 t110).bind fun bt119 => (if x11_1.length < 5864062014805 then (splitP.l0 k1 a2 t110 x10_1 (x11_1 ++ [bt119.1])) else (none))) = some (r1, r2, r3) := by rw [if_neg (show ¬ (false = true) by decide)] at H; exact H
          clear H
          have H := H1
          clear H1
          replace H := Option.bind_eq_some_iff.mp H
          obtain ⟨⟨t119, t120⟩, A150, H⟩ := H
          replace H : (if x11_1.length < 5864062014805 then (splitP.l0 k1 a2 t110 x10_1 (x11_1 ++ [t119])) else (none)) = some (r1, r2, r3) := H
          have A15 := Aside0.mk A150
          clear A150
          by_cases c16 : x11_1.length < 5864062014805
          · rw [if_pos c16] at H
            have LMc16 := Aside0.mk c16
            clear c16
            obtain ⟨y123, hy123⟩ : ∃ y_ : List (List (S29)), y_ = (x11_1 ++ [t119]) := ⟨_, rfl⟩
            replace H : (splitP.l0 k1 a2 t110 x10_1 y123) = some (r1, r2, r3) := by first | (rw [hy123]; with_reducible exact H) | (have H2_ := (Option.bind_some _ _).symm.trans H; rw [hy123]; with_reducible exact H2_) | (have H2_ := (Option.bind_some _ _).symm.trans H; with_reducible exact H2_) | with_reducible exact H | (rw [hy123]; exact H) | exact H
            have Ny123 := Aside0.mk hy123
            clear hy123
            have H' := Aside0.mk H
            clear H
            go_wp2_with (first | (go_at_call 32; (with_reducible refine (onP.calls x9_1 x10_1 a2 true b _ (pw_cell_below (by repeat (first | (with_reducible first | exact HB.out | apply below_alloc | apply pw_below_drewN | apply below_drew1) | exact HB.out)) HCELL.out) A4.out).mono ?_); rintro e w' ⟨rfl, rfl⟩) | ((with_reducible refine gate_callee (f := 53) rfl ?_); refine goesL_ (some 24) rfl rfl Tryd.func53 (by kernel_rfl) rfl #[.int .i64 x9_1, .int .i64 x10_1] rfl (by (try simp only [List.map_toArray, List.map_cons, List.map_nil]); first | done | rfl | (simp only [List.length_drop, List.length_take]; rfl)) ?_; (with_reducible refine (tile_cut.calls x9_1 x10_1 t110 _ A6.out).mono ?_); rintro e w17 ⟨rfl, hb⟩; refine ⟨_, rfl, ?_⟩; have n0_ := Aside0.mk (Kd.S_below (by (with_reducible repeat (first | apply Kd.S_alloc | apply Kd.S_drewN | apply Kd.S_drew)); exact HO_11.out) hb); have n1_ := Aside0.mk (below_step (by repeat (first | (with_reducible first | exact HB.out | apply below_alloc | apply pw_below_drewN | apply below_drew1) | exact HB.out)) hb); clear HO_11; clear HB; have HO_11 := n0_; have HB := n1_; clear n0_ n1_; (try clear hb); (try clear hb2); (try clear hk); (try clear hi)) | (go_at_call 33; (with_reducible refine (leftP.calls t110 a2 false b _ (pw_cell_below (by repeat (first | (with_reducible first | exact HB.out | apply below_alloc | apply pw_below_drewN | apply below_drew1) | exact HB.out)) HCELL.out) A7.out).mono ?_); rintro e w' ⟨rfl, rfl⟩) | ((with_reducible refine gate_callee (f := 13) rfl ?_); refine goesL_ (some 37) rfl rfl Tryd.func13 (by kernel_rfl) rfl #[.int .i64 x9_1, .int .i64 t110] rfl (by (try simp only [List.map_toArray, List.map_cons, List.map_nil]); first | done | rfl | (simp only [List.length_drop, List.length_take]; rfl)) ?_; (with_reducible refine (tile_Cover.calls k1 x9_1 t110 t119 t120 _ A15.out).mono ?_); rintro e w18 ⟨v121, rfl, ho0, hb⟩; refine ⟨_, rfl, ?_⟩; have n0_ := Aside0.mk (Kd.S_elder' (by (with_reducible repeat (first | apply Kd.S_alloc | apply Kd.S_drewN | apply Kd.S_drew)); exact HO_11.out) (Kd.R_base ho0) hb); have n1_ := Aside0.mk (Kd.R_lower ho0 (below_size (by repeat (first | (with_reducible first | exact HB.out | apply below_alloc | apply pw_below_drewN | apply below_drew1) | exact HB.out)))); have n2_ := Aside0.mk (below_step (by repeat (first | (with_reducible first | exact HB.out | apply below_alloc | apply pw_below_drewN | apply below_drew1) | exact HB.out)) hb); clear HO_11; clear HB; have HO_11 := n0_; have HO122 := n1_; have HB := n2_; clear n0_ n1_ n2_; (try clear hb); (try clear hb2); (try clear hk); (try clear hi); (try clear ho0); obtain ⟨Ao20, co20, eo20⟩ := Kd.R_slice HO122.out; subst eo20) | ((with_reducible refine gate_builtin (b := .append) (xs := #[.tmp 40, .tmp 42]) rfl ?_); at_builtin; refine Kd.S_append (Kd.slice 29 k29) (w0 := w) w.heap.size rfl (.tmp 40) (.tmp 42) 38 24 (.slice none 0 0) 24 rfl Tryd.underlying38 infoP24 rfl (by decide) (by omega) u11 x11_1 t119 [.slice Ao20 t119.length co20] (fun _ => True) (fun k_ => some k_ = (.slice Ao20 t119.length co20 : Value).ownBlock) rfl rfl ?aP (fun k_ hk_ => ((Kd.R_mono (ok' := fun k_ => ((fun _ => True)) k_ ∧ some k_ ≠ (u11 : Value).ownBlock) (Kd.R_apart' (HO122.out) (Kd.S_typed HO_11.out) (by decide)) (fun k_ hk => ⟨trivial, hk.2⟩))).1 k_ hk_.symm) ?aF ?aO ?aB ?aS ?aL ?_; (case aP => exact Kd.M_row (Kd.R_mono (Kd.R_tight rfl (Kd.R_mono (ok' := fun k_ => ((fun _ => True)) k_ ∧ some k_ ≠ (u11 : Value).ownBlock) (Kd.R_apart' (HO122.out) (Kd.S_typed HO_11.out) (by decide)) (fun k_ hk => ⟨trivial, hk.2⟩))) (fun _ h_ => h_))); (case aB => exact (by repeat (first | (with_reducible first | exact HB.out | apply below_alloc | apply pw_below_drewN | apply below_drew1) | exact HB.out))); (case aF => exact (fun _ _ => trivial)); (case aO => exact (by (with_reducible repeat (first | apply Kd.S_alloc | apply Kd.S_drewN | apply Kd.S_drew)); exact Kd.S_mono HO_11.out (fun k_ hk => ⟨trivial, fun e_ => hk.2 e_⟩))); (case aS => exact (below_size (by repeat (first | (with_reducible first | exact HB.out | apply below_alloc | apply pw_below_drewN | apply below_drew1) | exact HB.out)))); (case aL => have := LMc16.out; omega); intro v124 w19 ho hb hg hat; rw [← Ny123.out] at ho; have n0_ := Aside0.mk (hb); have n1_ := Aside0.mk (ho); clear HB; clear HO_11; clear HO122; have HB := n0_; have HO125 := n1_; clear n0_ n1_; clear ho hb hg hat))
            go_roundg k1
            case measure => have := HK1.out; omega
            case rel => exact ⟨(t110), (x10_1), (y123), (by first | rfl | (simp; done) | (simp [*]; done)), (by first | rfl | (simp; done) | (simp [*]; done)), H', ⟨by have := HK1.out; omega⟩, ⟨by (with_reducible repeat (first | apply Kd.S_alloc | apply Kd.S_drewN | apply Kd.S_drew)); exact HO125.out⟩, ⟨by repeat (first | (with_reducible first | exact HB.out | apply below_alloc | apply pw_below_drewN | apply below_drew1) | exact HB.out)⟩⟩
          · rw [if_neg c16] at H
            exact absurd H (by simp)
      · replace c5 := Bool.eq_false_iff.mpr c5
        subst c5
        have H1 : (some (x11_1, x9_1, x10_1)) = some (r1, r2, r3) := by rw [if_neg (show ¬ (false = true) by decide)] at H; exact H
        clear H
        have H := H1
        clear H1
        simp only [Option.some.injEq, Prod.mk.injEq] at H
        obtain ⟨rfl, rfl, rfl⟩ := H
        go_wp2_with (first | (go_at_call 32; (with_reducible refine (onP.calls x9_1 x10_1 a2 false b _ (pw_cell_below (by repeat (first | (with_reducible first | exact HB.out | apply below_alloc | apply pw_below_drewN | apply below_drew1) | exact HB.out)) HCELL.out) A4.out).mono ?_); rintro e w' ⟨rfl, rfl⟩) | (go_at_call 54; refine (rev_calls _ x11_1 w _ (by repeat (first | (with_reducible first | exact HB.out | apply below_alloc | apply pw_below_drewN | apply below_drew1) | exact HB.out)) (by (with_reducible repeat (first | apply Kd.S_alloc | apply Kd.S_drewN | apply Kd.S_drew)); exact HO_11.out)).mono ?_; rintro e w2 ⟨rfl, ho2, hb2⟩; have HO2 := Aside0.mk ho2; have HB2 := Aside0.mk hb2; clear ho2 hb2 HB HO_11))
        go_ret3
        exact ⟨_, rfl, HO2.out, HB2.out⟩
end Go.Proofs.YtopacnaiedlaaaaDoor.F
end
