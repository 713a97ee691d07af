-- JOINED BY A PROGRAM OF THIS PLACE (wip/tools/pack.py) out of: F11 Ref01 F12 F17
import Derived.Test.YtkbbdbnjplcjdaaC2
import Derived.Test.YtkbbdbnjplcjdaaC3
import Derived.Test.YtkbbdbnjplcjdaaC4
section
-- WRITTEN BY A PROGRAM OF THIS PLACE (wip/tools/pp.sh: the print, turned for functions proved by hand). Lean checks it.
namespace Go.Proofs.Ytkbbdbnjplcjdaa.F
open Go.RowKit Go.Proofs.YtkbbdbnjplcjdaaW.PrintWords Go.Proofs.YtkbbdbnjplcjdaaW.PrintLast Go.Proofs.YtkbbdbnjplcjdaaW.PrintMore
attribute [local go_sem] max2_int min2_int max_two min_two max_three min_three max_four min_four   -- for this text's walks alone
set_option linter.unusedVariables false
set_option linter.unusedSimpArgs false
/-! ### sawyerref01_Sum: function 33 -/
mutual
def sawyerref01_Sum.l0 : Nat → List Int → List Int → Option (ByteArray)
  | 0, _, _ => none
  | k + 1, x0, x3 => if ((x3.length : Int) % 64) = 56 then (sawyerref01_Sum.l1 k x3 (IntKind.u64.wrap ((IntKind.u64.wrap ((x0.length : Int))) * 8)) 7) else (if x3.length < 140737488355328 then (sawyerref01_Sum.l0 k x0 (x3 ++ [0])) else (none))
def sawyerref01_Sum.l1 : Nat → List Int → Int → Int → Option (ByteArray)
  | 0, _, _, _ => none
  | k + 1, x3, x4, x5 => if x5 ≥ 0 then (if 0 ≤ (wrap64 (8 * x5)) then (if x3.length < 140737488355328 then (sawyerref01_Sum.l1 k (x3 ++ [(shr .u64 x4 (wrap64 (8 * x5))) % 256]) x4 (wrap64 (x5 - 1))) else (none)) else (none)) else (sawyerref01_Sum.l2 k x3 (([1779033703, 3144134277, 1013904242, 2773480762, 1359893119, 2600822924, 528734635, 1541459225] : List Int)) 0)
def sawyerref01_Sum.l2 : Nat → List Int → List Int → Int → Option (ByteArray)
  | 0, _, _, _ => none
  | k + 1, x3, x6, x7 => if x7 < (x3.length : Int) then (if 0 ≤ x7 then (if x7 ≤ (wrap64 (x7 + 64)) then (if (wrap64 (x7 + 64)) ≤ (x3.length : Int) then ((sawyerref01_take.f k x6 ((x3.take ((wrap64 (x7 + 64)) : Int).toNat).drop (x7 : Int).toNat)).bind fun t359 => (sawyerref01_Sum.l2 k x3 t359 (wrap64 (x7 + 64)))) else (none)) else (none)) else (none)) else (sawyerref01_Sum.l3 k x6 ([] : List Int) 0)
def sawyerref01_Sum.l3 : Nat → List Int → List Int → Int → Option (ByteArray)
  | 0, _, _, _ => none
  | k + 1, x6, x8, x9 => if x9 < 8 then (if 0 ≤ x9 then (if x9 < (x6.length : Int) then ((some (([((rd x6 x9) / 16777216) % 256, ((rd x6 x9) / 65536) % 256, ((rd x6 x9) / 256) % 256, (rd x6 x9) % 256] : List Int) : List Int)).bind fun y366 => (if x8.length + y366.length < 140737488355328 then (sawyerref01_Sum.l3 k x6 (x8 ++ y366) (wrap64 (x9 + 1))) else (none))) else (none)) else (none)) else (some (strOfNums x8))
end
def sawyerref01_Sum.f (k : Nat) (l0 : List Int) : Option (ByteArray) := if ([] : List Int).length + l0.length < 140737488355328 then ((some (([] : List Int) ++ l0 : List Int)).bind fun y340 => (if y340.length < 140737488355328 then (sawyerref01_Sum.l0 k l0 (y340 ++ [128])) else (none))) else (none)
def sawyerref01_Sum.T20 : Bool × List (List Nat × List Nat) := (true, [([], []), ([], []), ([], []), ([1, 2], [1, 2]), ([3], [3]), ([4], [4]), ([5], [5]), ([], []), ([], []), ([7, 8], [7, 8]), ([9], [9]), ([10], [10]), ([11], [11]), ([], []), ([], []), ([13, 14], [13, 14]), ([15], [15]), ([16], [16]), ([17], [17]), ([], []), ([], []), ([19, 20], [19, 20]), ([21], [21]), ([22], [22]), ([6, 12, 18, 23], [6, 12, 18, 23]), ([0, 24], [0, 24]), ([25, 25, 0, 1, 2, 3, 4, 5, 6, 7, 8, 9, 10, 11, 12, 13, 14, 15, 16, 17, 18, 19, 20, 21, 22, 23, 24, 25], [0, 25])])
def sawyerref01_Sum.B20 : List Nat := [0, 0, 0, 6, 14, 30, 62, 0, 0, 384, 896, 1920, 3968, 0, 0, 24576, 57344, 122880, 253952, 0, 0, 1572864, 3670016, 7864320, 16777214, 33554431, 67108863]
theorem sawyerref01_Sum.tab20 : rtab .any (opsOf Try.f33 20) = sawyerref01_Sum.T20 := by kernel_rfl
theorem sawyerref01_Sum.bits20 : waitsOk sawyerref01_Sum.T20.2 sawyerref01_Sum.B20 = true := by kernel_rfl
set_option maxHeartbeats 8000000 in
set_option maxRecDepth 100000 in
theorem sawyerref01_Sum.calls (k : Nat) (A0 : Option Addr) (c0 : Nat) (l0 : List Int) (r : ByteArray) (w : World) (hr0 : Kd.C (Kd.int .u8) w A0 l0.length l0) (hc0 : l0.length ≤ c0) (h : sawyerref01_Sum.f k l0 = some r) :
    Calls Try.prog 33 #[.slice A0 l0.length c0] w fun e w' => e = .returned (.string r) ∧ Below w.heap.size w w' := by
  (have HR0 := Aside0.mk hr0); (have HC0 := Aside0.mk hc0); (clear hr0 hc0); (have HB := Aside0.mk (Below.refl w.heap.size w)); (have H : (if ([] : List Int).length + l0.length < 140737488355328 then ((some (([] : List Int) ++ l0 : List Int)).bind fun y340 => (if y340.length < 140737488355328 then (sawyerref01_Sum.l0 k l0 (y340 ++ [128])) else (none))) else (none)) = some r := h); (clear h); (by_cases c2 : ([] : List Int).length + l0.length < 140737488355328)
  · (rw [if_pos c2] at H); (have LMc2 := Aside0.mk c2); (clear c2); (obtain ⟨y340, hy340⟩ : ∃ y_ : List Int, y_ = (([] : List Int) ++ l0) := ⟨_, rfl⟩); (replace H : (if y340.length < 140737488355328 then (sawyerref01_Sum.l0 k l0 (y340 ++ [128])) else (none)) = some r := by first | (rw [hy340]; with_reducible exact H) | (have H2_ := (Option.bind_some _ _).symm.trans H; rw [hy340]; with_reducible exact H2_) | (have H2_ := (Option.bind_some _ _).symm.trans H; with_reducible exact H2_) | with_reducible exact H | (rw [hy340]; exact H) | exact H); (have Ny340 := Aside0.mk hy340); (clear hy340); (by_cases c3 : y340.length < 140737488355328)
    · (rw [if_pos c3] at H); (have LMc3 := Aside0.mk c3); (clear c3); (obtain ⟨y343, hy343⟩ : ∃ y_ : List Int, y_ = (y340 ++ [128]) := ⟨_, rfl⟩); (replace H : (sawyerref01_Sum.l0 k l0 y343) = some r := by first | (rw [hy343]; with_reducible exact H) | (have H2_ := (Option.bind_some _ _).symm.trans H; rw [hy343]; with_reducible exact H2_) | (have H2_ := (Option.bind_some _ _).symm.trans H; with_reducible exact H2_) | with_reducible exact H | (rw [hy343]; exact H) | exact H); (have Ny343 := Aside0.mk hy343); (clear hy343); (have H' := Aside0.mk H); (clear H); (go_enter Try.func33, Try.ntmps33); (go_wp2_with (first | ((with_reducible refine gate_builtin (b := .append) (xs := #[.tmp 10, .tmp 11]) rfl ?_); at_builtin; refine Kd.R_append_rows (Kd.int .u8) (w0 := w) w.heap.size rfl (.tmp 10) (.tmp 11) 23 5 (.int .u8 0) 1 rfl Try.underlying23 info5 rfl (by decide) (by omega) (.slice none 0 0) ([] : List Int) l0 _ _ _ (fun _ => True) (fun _ => False) rfl rfl ?aO ?aR (fun _ _ h => h) (fun _ h => h.elim) ?aF ?aB ?aS ?aL ?_; (case aR => repeat (first | exact HR0.out | (with_reducible refine Kd.C_alloc ?_ _) | (with_reducible refine Kd.C_drewN ?_ _) | (with_reducible refine Kd.C_drew ?_))); (case aB => exact (by repeat (first | (with_reducible first | exact HB.out | apply below_alloc | apply pw_below_drewN | apply below_drew1) | exact HB.out))); (case aF => exact (fun _ _ => trivial)); (case aO => exact ((Kd.R_nil _ _ _ _ (fun _ => True)))); (case aS => exact (below_size (by repeat (first | (with_reducible first | exact HB.out | apply below_alloc | apply pw_below_drewN | apply below_drew1) | exact HB.out)))); (case aL => have := LMc2.out; omega); intro v341 w4 ho hb hg hat; rw [← Ny340.out] at ho; have n0_ := Aside0.mk (hb); have n1_ := Aside0.mk (ho); clear HB; have HB := n0_; have HO342 := n1_; clear n0_ n1_; clear ho hb hg hat) | ((with_reducible refine gate_builtin (b := .append) (xs := #[.tmp 13, .tmp 14]) rfl ?_); at_builtin; refine Kd.R_append (Kd.int .u8) (w0 := w) w.heap.size rfl (.tmp 13) (.tmp 14) 23 5 (.int .u8 0) 1 rfl Try.underlying23 info5 rfl (by decide) (by omega) v341 y340 128 [.int .u8 128] (fun _ => True) (fun _ => False) rfl rfl ?aP (fun _ hk => hk.elim) ?aF ?aO ?aB ?aS ?aL ?_; (case aP => exact rfl); (case aB => exact (by repeat (first | (with_reducible first | exact HB.out | apply below_alloc | apply pw_below_drewN | apply below_drew1) | exact HB.out))); (case aF => exact (fun _ _ => trivial)); (case aO => exact (by (with_reducible repeat (first | apply Kd.R_alloc | apply Kd.R_drewN | apply Kd.R_drew)); exact HO342.out)); (case aS => exact (below_size (by repeat (first | (with_reducible first | exact HB.out | apply below_alloc | apply pw_below_drewN | apply below_drew1) | exact HB.out)))); (case aL => have := LMc3.out; omega); intro v344 w5 ho hb hg hat; rw [← Ny343.out] at ho; have n0_ := Aside0.mk (hb); have n1_ := Aside0.mk (ho); clear HB; clear HO342; have HB := n0_; have HO345 := n1_; clear n0_ n1_; clear ho hb hg hat))); (go_loopg [3] k (fun kq v3 w' => ∃ (x3_1 : List Int), Aside0 (sawyerref01_Sum.l0 kq l0 x3_1 = some r) ∧ Aside0 (kq ≤ k) ∧ Aside0 (Kd.R (Kd.int .u8) 5 w' w.heap.size (fun _ => True) v3 x3_1) ∧ Aside0 (Below w.heap.size w w')))
      case atStart => exact ⟨(y343), H', ⟨Nat.le_refl _⟩, ⟨by (with_reducible repeat (first | apply Kd.R_alloc | apply Kd.R_drewN | apply Kd.R_drew)); exact HO345.out⟩, ⟨by repeat (first | (with_reducible first | exact HB.out | apply below_alloc | apply pw_below_drewN | apply below_drew1) | exact HB.out)⟩⟩
      case round =>
        (clear H'); (try clear c2); (try clear p2); (try clear c3); (obtain ⟨x3_1, HA, HK1, HO_3, HB⟩ := hrel)
        cases gk with
        | zero => exact absurd HA.out (by simp [sawyerref01_Sum.l0])
        | succ k1 =>
          (have H := HA.out); (clear HA); (simp only [sawyerref01_Sum.l0] at H); (by_cases c6 : ((x3_1.length : Int) % 64) = 56)
          · (rw [if_pos c6] at H); (have c6b0 : (((x3_1.length : Int) % 64) == 56) = true := beq_iff_eq.mpr c6); (have c6b1 : (((x3_1.length : Int) % 64) != 56) = false := bne_eq_false_iff_eq.mpr c6); (clear c6); (have H' := Aside0.mk H); (clear H); (obtain ⟨Ao7, co7, eo7⟩ := Kd.R_slice HO_3.out); (subst eo7); (go_wp2); (go_loopg [3, 5] k1 (fun kq v3 v5 w' => ∃ (x3_2 : List Int) (x5_2 : Int), v5 = .int .i64 x5_2 ∧ Aside0 (sawyerref01_Sum.l1 kq x3_2 (IntKind.u64.wrap ((IntKind.u64.wrap ((l0.length : Int))) * 8)) x5_2 = some r) ∧ Aside0 (kq ≤ k1) ∧ Aside0 (Kd.R (Kd.int .u8) 5 w' w.heap.size (fun _ => True) v3 x3_2) ∧ Aside0 (Below w.heap.size w w')))
            case atStart => exact ⟨(x3_1), (7), (by first | rfl | (simp; done) | (simp [*]; done)), H', ⟨Nat.le_refl _⟩, ⟨by (with_reducible repeat (first | apply Kd.R_alloc | apply Kd.R_drewN | apply Kd.R_drew)); exact HO_3.out⟩, ⟨by repeat (first | (with_reducible first | exact HB.out | apply below_alloc | apply pw_below_drewN | apply below_drew1) | exact HB.out)⟩⟩
            case round =>
              (clear H'); (try clear c2); (try clear p2); (try clear c3); (try clear c6); (try clear c6b0); (try clear c6b1); (try clear p2); (obtain ⟨x3_2, x5_2, rfl, HA, HK2, HO_3, HB⟩ := hrel)
              cases gk with
              | zero => exact absurd HA.out (by simp [sawyerref01_Sum.l1])
              | succ k2 =>
                (have H := HA.out); (clear HA); (simp only [sawyerref01_Sum.l1] at H); (by_cases c8 : x5_2 ≥ 0)
                · (rw [if_pos c8] at H); (have c8b0 : decide (0 ≤ x5_2) = true := decide_eq_true c8); (clear c8); (obtain ⟨ji9, hji9⟩ : ∃ j_ : Int, (wrap64 (8 * x5_2)) = j_ := ⟨_, rfl⟩); (replace H : (if 0 ≤ (ji9) then (if x3_2.length < 140737488355328 then (sawyerref01_Sum.l1 k2 (x3_2 ++ [(shr .u64 (IntKind.u64.wrap ((IntKind.u64.wrap ((l0.length : Int))) * 8)) (ji9)) % 256]) (IntKind.u64.wrap ((IntKind.u64.wrap ((l0.length : Int))) * 8)) (wrap64 (x5_2 - 1))) else (none)) else (none)) = some r := by first | (rw [hji9] at H; exact H) | (simp only [hji9] at H ⊢; exact H)); (have hji9w : (IntKind.i64.wrap (8 * x5_2)) = ji9 := (i64_w _).trans hji9); (by_cases c10 : 0 ≤ (ji9))
                  · (rw [if_pos c10] at H); (have c10b0 := eq_true c10); (have c10b1 : decide (0 ≤ (ji9)) = true := decide_eq_true c10); (clear c10); (obtain ⟨ji11, hji11⟩ : ∃ j_ : Int, (shr .u64 (IntKind.u64.wrap ((IntKind.u64.wrap ((l0.length : Int))) * 8)) (ji9)) = j_ := ⟨_, rfl⟩); (replace H : (if x3_2.length < 140737488355328 then (sawyerref01_Sum.l1 k2 (x3_2 ++ [(ji11) % 256]) (IntKind.u64.wrap ((IntKind.u64.wrap ((l0.length : Int))) * 8)) (wrap64 (x5_2 - 1))) else (none)) = some r := by first | (rw [hji11] at H; exact H) | (simp only [hji11] at H ⊢; exact H)); (have hji11_ : ((IntKind.u64.wrap ((IntKind.u64.wrap ((l0.length : Int))) * 8)) / 2 ^ min (ji9).toNat 64) = ji11 := hji11); (have hji11z : (ji9) ≤ 64 → ((IntKind.u64.wrap ((IntKind.u64.wrap ((l0.length : Int))) * 8)) / 2 ^ (ji9).toNat) = ji11 := shr_small hji11); (by_cases c12 : x3_2.length < 140737488355328)
                    · (rw [if_pos c12] at H); (have LMc12 := Aside0.mk c12); (clear c12); (obtain ⟨y349, hy349⟩ : ∃ y_ : List Int, y_ = (x3_2 ++ [(ji11) % 256]) := ⟨_, rfl⟩); (replace H : (sawyerref01_Sum.l1 k2 y349 (IntKind.u64.wrap ((IntKind.u64.wrap ((l0.length : Int))) * 8)) (wrap64 (x5_2 - 1))) = some r := by first | (rw [hy349]; with_reducible exact H) | (have H2_ := (Option.bind_some _ _).symm.trans H; rw [hy349]; with_reducible exact H2_) | (have H2_ := (Option.bind_some _ _).symm.trans H; with_reducible exact H2_) | with_reducible exact H | (rw [hy349]; exact H) | exact H); (have Ny349 := Aside0.mk hy349); (clear hy349); (have H' := Aside0.mk H); (clear H); (go_wp2_with (first | ((with_reducible refine gate_builtin (b := .append) (xs := #[.tmp 31, .tmp 37]) rfl ?_); at_builtin; refine Kd.R_append (Kd.int .u8) (w0 := w) w.heap.size rfl (.tmp 31) (.tmp 37) 23 5 (.int .u8 0) 1 rfl Try.underlying23 info5 rfl (by decide) (by omega) u3 x3_2 ((ji11) % 256) [.int .u8 ((ji11) % 256)] (fun _ => True) (fun _ => False) rfl rfl ?aP (fun _ hk => hk.elim) ?aF ?aO ?aB ?aS ?aL ?_; (case aP => exact rfl); (case aB => exact (by repeat (first | (with_reducible first | exact HB.out | apply below_alloc | apply pw_below_drewN | apply below_drew1) | exact HB.out))); (case aF => exact (fun _ _ => trivial)); (case aO => exact (by (with_reducible repeat (first | apply Kd.R_alloc | apply Kd.R_drewN | apply Kd.R_drew)); exact HO_3.out)); (case aS => exact (below_size (by repeat (first | (with_reducible first | exact HB.out | apply below_alloc | apply pw_below_drewN | apply below_drew1) | exact HB.out)))); (case aL => have := LMc12.out; omega); intro v350 w13 ho hb hg hat; rw [← Ny349.out] at ho; have n0_ := Aside0.mk (hb); have n1_ := Aside0.mk (ho); clear HB; clear HO_3; have HB := n0_; have HO351 := n1_; clear n0_ n1_; clear ho hb hg hat))); (go_roundg k2)
                      case measure => have := HK1.out; have := HK2.out; omega
                      case rel => exact ⟨(y349), (wrap64 (x5_2 - 1)), (by first | rfl | (simp; done) | (simp [*]; done)), H', ⟨by have := HK1.out; have := HK2.out; omega⟩, ⟨by (with_reducible repeat (first | apply Kd.R_alloc | apply Kd.R_drewN | apply Kd.R_drew)); exact HO351.out⟩, ⟨by repeat (first | (with_reducible first | exact HB.out | apply below_alloc | apply pw_below_drewN | apply below_drew1) | exact HB.out)⟩⟩
                    focus ((rw [if_neg c12] at H); (exact absurd H (by simp)))
                  focus ((rw [if_neg c10] at H); (exact absurd H (by simp)))
                · (rw [if_neg c8] at H); (have c8b0 : decide (0 ≤ x5_2) = false := decide_eq_false c8); (clear c8); (obtain ⟨y352, hy352⟩ : ∃ y_ : List Int, y_ = (([1779033703, 3144134277, 1013904242, 2773480762, 1359893119, 2600822924, 528734635, 1541459225] : List Int)) := ⟨_, rfl⟩); (replace H : (sawyerref01_Sum.l2 k2 x3_2 y352 0) = some r := by first | (rw [hy352]; with_reducible exact H) | (have H2_ := (Option.bind_some _ _).symm.trans H; rw [hy352]; with_reducible exact H2_) | (have H2_ := (Option.bind_some _ _).symm.trans H; with_reducible exact H2_) | with_reducible exact H | (rw [hy352]; exact H) | exact H); (have Ny352 := Aside0.mk hy352); (clear hy352); (have H' := Aside0.mk H); (clear H); (go_wp2_with (first | ((with_reducible refine gate_dst (N := 39) rfl ?_); refine Kd.R_lit (Kd.int .u32) _ 67 ?hg (N := 39) ?hd (xs := ([1779033703, 3144134277, 1013904242, 2773480762, 1359893119, 2600822924, 528734635, 1541459225] : List Int)) (inner := [.int .u32 1779033703, .int .u32 3144134277, .int .u32 1013904242, .int .u32 2773480762, .int .u32 1359893119, .int .u32 2600822924, .int .u32 528734635, .int .u32 1541459225]) (ok := fun _ => True) (okp := fun _ => True) ?hr ?hp (fun _ hk => hk) trivial (Below.refl _ _) (Nat.le_refl _) (by simp) ?_; (case hd => rfl); (case hg => rfl); (case hr => first | (go_simp; done) | (go_simp; rfl) | (go_simp; simp [IntKind.wrap_u32]; done)); (case hp => exact (Reps.one (show Kd.M (Kd.int .u32) _ _ _ 1779033703 [.int .u32 1779033703] from rfl) (Reps.one (show Kd.M (Kd.int .u32) _ _ _ 3144134277 [.int .u32 3144134277] from rfl) (Reps.one (show Kd.M (Kd.int .u32) _ _ _ 1013904242 [.int .u32 1013904242] from rfl) (Reps.one (show Kd.M (Kd.int .u32) _ _ _ 2773480762 [.int .u32 2773480762] from rfl) (Reps.one (show Kd.M (Kd.int .u32) _ _ _ 1359893119 [.int .u32 1359893119] from rfl) (Reps.one (show Kd.M (Kd.int .u32) _ _ _ 2600822924 [.int .u32 2600822924] from rfl) (Reps.one (show Kd.M (Kd.int .u32) _ _ _ 528734635 [.int .u32 528734635] from rfl) (Reps.one (show Kd.M (Kd.int .u32) _ _ _ 1541459225 [.int .u32 1541459225] from rfl) (Reps.none _ _)))))))))); intro v353 w14 ho15 hb hg_ hnew_; clear hg_ hnew_; (first | rw [← Ny352.out] at ho15 | (simp only [Int.reduceToNat] at ho15; rw [← Ny352.out] at ho15)); have n0_ := Aside0.mk (Kd.R_below (by (with_reducible repeat (first | apply Kd.R_alloc | apply Kd.R_drewN | apply Kd.R_drew)); exact HO_3.out) hb); have n1_ := Aside0.mk (Kd.R_lower ho15 (below_size (by repeat (first | (with_reducible first | exact HB.out | apply below_alloc | apply pw_below_drewN | apply below_drew1) | exact HB.out)))); have n2_ := Aside0.mk (below_step (by repeat (first | (with_reducible first | exact HB.out | apply below_alloc | apply pw_below_drewN | apply below_drew1) | exact HB.out)) hb); clear HO_3; clear HB; have HO_3 := n0_; have HO354 := n1_; have HB := n2_; clear n0_ n1_ n2_; clear hb ho15))); (go_loopg [6, 7] k2 (fun kq v6 v7 w' => ∃ (x6_3 : List Int) (x7_3 : Int), v7 = .int .i64 x7_3 ∧ Aside0 (sawyerref01_Sum.l2 kq x3_2 x6_3 x7_3 = some r) ∧ Aside0 (kq ≤ k2) ∧ Aside0 (Kd.R (Kd.int .u8) 5 w' w.heap.size (fun _ => True) u3 x3_2) ∧ Aside0 (Kd.R (Kd.int .u32) 67 w' w.heap.size (fun _ => True) v6 x6_3) ∧ Aside0 (Below w.heap.size w w')))
                  case atStart => exact ⟨(y352), (0), (by first | rfl | (simp; done) | (simp [*]; done)), H', ⟨Nat.le_refl _⟩, ⟨by (with_reducible repeat (first | apply Kd.R_alloc | apply Kd.R_drewN | apply Kd.R_drew)); exact HO_3.out⟩, ⟨by (with_reducible repeat (first | apply Kd.R_alloc | apply Kd.R_drewN | apply Kd.R_drew)); exact HO354.out⟩, ⟨by repeat (first | (with_reducible first | exact HB.out | apply below_alloc | apply pw_below_drewN | apply below_drew1) | exact HB.out)⟩⟩
                  case round =>
                    (clear H'); (try clear c1); (try clear c2); (try clear p2); (try clear c3); (try clear c6); (try clear c6b0); (try clear c6b1); (try clear p6); (try clear c8); (try clear c8b0); (try clear c10); (try clear c10b0); (try clear c10b1); (try clear c12); (try clear p2); (obtain ⟨x6_3, x7_3, rfl, HA, HK3, HO_3, HO_6, HB⟩ := hrel)
                    cases gk with
                    | zero => exact absurd HA.out (by simp [sawyerref01_Sum.l2])
                    | succ k3 =>
                      (have H := HA.out); (clear HA); (simp only [sawyerref01_Sum.l2] at H); (by_cases c16 : x7_3 < (x3_2.length : Int))
                      · (rw [if_pos c16] at H); (have c16b0 : decide (x7_3 < (x3_2.length : Int)) = true := decide_eq_true c16); (clear c16); (by_cases c17 : 0 ≤ x7_3)
                        · (rw [if_pos c17] at H); (have c17b0 := eq_true c17); (have c17b1 : decide (0 ≤ x7_3) = true := decide_eq_true c17); (clear c17); (by_cases c18 : x7_3 ≤ (wrap64 (x7_3 + 64)))
                          · (rw [if_pos c18] at H); (have c18b0 := eq_true c18); (have c18b1 : decide (x7_3 ≤ (wrap64 (x7_3 + 64))) = true := decide_eq_true c18); (by_cases c19 : (wrap64 (x7_3 + 64)) ≤ (x3_2.length : Int))
                            · (rw [if_pos c19] at H); (have c19b0 := eq_true c19); (have c19b1 : decide ((wrap64 (x7_3 + 64)) ≤ (x3_2.length : Int)) = true := decide_eq_true c19); (obtain ⟨y355, hy355⟩ : ∃ y_ : List Int, y_ = ((x3_2.take ((wrap64 (x7_3 + 64)) : Int).toNat).drop (x7_3 : Int).toNat) := ⟨_, rfl⟩); (replace H : ((sawyerref01_take.f k3 x6_3 y355).bind fun t359 => (sawyerref01_Sum.l2 k3 x3_2 t359 (wrap64 (x7_3 + 64)))) = some r := by first | (rw [hy355]; with_reducible exact H) | (have H2_ := (Option.bind_some _ _).symm.trans H; rw [hy355]; with_reducible exact H2_) | (have H2_ := (Option.bind_some _ _).symm.trans H; with_reducible exact H2_) | with_reducible exact H | (rw [hy355]; exact H) | exact H); (have Ny355 := Aside0.mk hy355); (clear hy355); (replace H := Option.bind_eq_some_iff.mp H); (obtain ⟨t359, A200, H⟩ := H); (replace H : (sawyerref01_Sum.l2 k3 x3_2 t359 (wrap64 (x7_3 + 64))) = some r := H); (have A20 := Aside0.mk A200); (clear A200); (have H' := Aside0.mk H); (clear H); (obtain ⟨Ao21, co21, eo21⟩ := Kd.R_slice HO_3.out); (subst eo21); (have q22 : ((wrap64 (x7_3 + 64)) : Int) ≤ ((x3_2.length : Int) : Int) := of_decide_eq_true (by first | (with_reducible assumption) | assumption)); (obtain ⟨i022, hi022, _, hsz22, _⟩ := info_parts info5); (have hroom22 : x3_2.length ≤ co21 := (Kd.R_reads' HO_3.out).2.1); (have hC22 : Kd.C (Kd.int .u8) _ Ao21 x3_2.length x3_2 := (Kd.R_reads' HO_3.out).2.2); (have ql22 : (x7_3 : Int) ≤ ((wrap64 (x7_3 + 64)) : Int) := of_decide_eq_true (by first | (with_reducible assumption) | assumption)); (have q022 : (0 : Int) ≤ (x7_3 : Int) := of_decide_eq_true (by first | (with_reducible assumption) | assumption)); (have hcut22 := cut_mid (P := Try.prog) 23 5 .i64 .i64 Try.underlying23 hi022 1 hsz22 Ao21 x3_2.length co21 x7_3 (wrap64 (x7_3 + 64)) q022 ql22 q22 hroom22); (have hr22 := Kd.C_mid (lo := (x7_3 : Int).toNat) (hi := ((wrap64 (x7_3 + 64)) : Int).toNat) (c := co21) hC22 (by omega) (by omega) hroom22); (obtain ⟨A22, hA22⟩ : ∃ A1, A1 = (if co21 = (x7_3 : Int).toNat then Ao21 else (Ao21 : Option Addr).map (·.add ((x7_3 : Int).toNat * 1))) := ⟨_, rfl⟩); (obtain ⟨c22, hc22⟩ : ∃ c1, c1 = co21 - (x7_3 : Int).toNat := ⟨_, rfl⟩); (have hy22 : y355.length = ((wrap64 (x7_3 + 64)) : Int).toNat - (x7_3 : Int).toNat := (by rw [Ny355.out, List.length_drop, List.length_take] <;> omega)); (rw [show ((x3_2).take ((wrap64 (x7_3 + 64)) : Int).toNat).drop (x7_3 : Int).toNat = y355 from Ny355.out.symm] at hr22); (replace hr22 : Kd.C (Kd.int .u8) _ A22 y355.length y355 := (by rw [hA22]; exact hr22)); (rw [← hy22, ← hA22, ← hc22] at hcut22); (have HR358 := Aside0.mk hr22); (have HC358 := Aside0.mk (show y355.length ≤ c22 from by rw [hy22, hc22]; exact Nat.sub_le_sub_right (Nat.le_trans (by omega) hroom22) _)); (clear hr22 hC22 hroom22 hi022 hsz22 hc22); (have KY22 := Aside0.mk hy22); (have KA22 := Aside0.mk hA22); (clear hy22 hA22); (have KL22 := Aside0.mk (show ((wrap64 (x7_3 + 64)) : Int).toNat ≤ x3_2.length from by omega)); (have KM22 := Aside0.mk (show (x7_3 : Int).toNat ≤ ((wrap64 (x7_3 + 64)) : Int).toNat from by omega)); (replace q22 := eq_true q22); (obtain ⟨Ao23, co23, eo23⟩ := Kd.R_slice HO_6.out); (subst eo23); (go_wp2_with (first | ((with_reducible refine gate_callee (f := 52) rfl ?_); refine goesL_ (some 52) rfl rfl Try.func52 (by kernel_rfl) rfl #[.slice Ao23 x6_3.length co23, .slice A22 y355.length c22] rfl (by (try simp only [List.map_toArray, List.map_cons, List.map_nil]); first | done | rfl | (simp only [List.length_drop, List.length_take]; rfl)) ?_; (with_reducible refine (sawyerref01_take.calls k3 _ _ x6_3 _ _ y355 t359 _ ?side1 ?side2 ?side3 ?side4 A20.out).mono ?_); (case side1 => repeat (first | exact (Kd.R_reads' HO_6.out).2.2 | (with_reducible refine Kd.C_alloc ?_ _) | (with_reducible refine Kd.C_drewN ?_ _) | (with_reducible refine Kd.C_drew ?_))); (case side2 => exact (Kd.R_reads' HO_6.out).2.1); (case side3 => repeat (first | exact (by repeat (first | (with_reducible exact HR358.out) | (with_reducible refine Kd.C_alloc ?_ _) | (with_reducible refine Kd.C_drewN ?_ _) | (with_reducible refine Kd.C_drew ?_) | exact HR358.out)) | (with_reducible refine Kd.C_alloc ?_ _) | (with_reducible refine Kd.C_drewN ?_ _) | (with_reducible refine Kd.C_drew ?_))); (case side4 => exact HC358.out); rintro e w24 ⟨v360, rfl, ho0, hb⟩; refine ⟨_, rfl, ?_⟩; have n0_ := Aside0.mk (Kd.R_below (by (with_reducible repeat (first | apply Kd.R_alloc | apply Kd.R_drewN | apply Kd.R_drew)); exact HO_3.out) hb); have n1_ := Aside0.mk (Kd.R_elder' (by (with_reducible repeat (first | apply Kd.R_alloc | apply Kd.R_drewN | apply Kd.R_drew)); exact HO_6.out) (Kd.R_base ho0) hb); have n2_ := Aside0.mk (Kd.R_lower (Kd.R_new' ho0 (Kd.R_lt (by (with_reducible repeat (first | apply Kd.R_alloc | apply Kd.R_drewN | apply Kd.R_drew)); exact HO_6.out))) (below_size (by repeat (first | (with_reducible first | exact HB.out | apply below_alloc | apply pw_below_drewN | apply below_drew1) | exact HB.out)))); have n3_ := Aside0.mk (Kd.C_below (by repeat (first | (with_reducible exact HR358.out) | (with_reducible refine Kd.C_alloc ?_ _) | (with_reducible refine Kd.C_drewN ?_ _) | (with_reducible refine Kd.C_drew ?_) | exact HR358.out)) hb); have n4_ := Aside0.mk (below_step (by repeat (first | (with_reducible first | exact HB.out | apply below_alloc | apply pw_below_drewN | apply below_drew1) | exact HB.out)) hb); clear HO_3; clear HO_6; clear HR358; clear HB; have HO_3 := n0_; have HO_6 := n1_; have HO361 := n2_; have HR358 := n3_; have HB := n4_; clear n0_ n1_ n2_ n3_ n4_; (try clear hb); (try clear hb2); (try clear hk); (try clear hi); (try clear ho0)))); (go_roundg k3)
                              case measure => have := HK1.out; have := HK2.out; have := HK3.out; omega
                              case rel => exact ⟨(t359), (wrap64 (x7_3 + 64)), (by first | rfl | (simp; done) | (simp [*]; done)), H', ⟨by have := HK1.out; have := HK2.out; have := HK3.out; omega⟩, ⟨by (with_reducible repeat (first | apply Kd.R_alloc | apply Kd.R_drewN | apply Kd.R_drew)); exact HO_3.out⟩, ⟨by (with_reducible repeat (first | apply Kd.R_alloc | apply Kd.R_drewN | apply Kd.R_drew)); exact Kd.R_mono HO361.out (fun _ hk => trivial)⟩, ⟨by repeat (first | (with_reducible first | exact HB.out | apply below_alloc | apply pw_below_drewN | apply below_drew1) | exact HB.out)⟩⟩
                            focus ((rw [if_neg c19] at H); (exact absurd H (by simp)))
                          focus ((rw [if_neg c18] at H); (exact absurd H (by simp)))
                        focus ((rw [if_neg c17] at H); (exact absurd H (by simp)))
                      · (rw [if_neg c16] at H); (have c16b0 : decide (x7_3 < (x3_2.length : Int)) = false := decide_eq_false c16); (clear c16); (have H' := Aside0.mk H); (clear H); (obtain ⟨Ao25, co25, eo25⟩ := Kd.R_slice HO_3.out); (subst eo25); (go_wp2); (go_loopg [8, 9] k3 (fun kq v8 v9 w' => ∃ (x8_4 : List Int) (x9_4 : Int), v9 = .int .i64 x9_4 ∧ Aside0 (sawyerref01_Sum.l3 kq x6_3 x8_4 x9_4 = some r) ∧ Aside0 (kq ≤ k3) ∧ Aside0 (Kd.R (Kd.int .u32) 67 w' w.heap.size (fun _ => True) u6 x6_3) ∧ Aside0 (Kd.R (Kd.int .u8) 5 w' w.heap.size (fun _ => True) v8 x8_4) ∧ Aside0 (Below w.heap.size w w')))
                        case atStart => exact ⟨(([] : List Int)), (0), (by first | rfl | (simp; done) | (simp [*]; done)), H', ⟨Nat.le_refl _⟩, ⟨by (with_reducible repeat (first | apply Kd.R_alloc | apply Kd.R_drewN | apply Kd.R_drew)); exact HO_6.out⟩, ⟨by first | exact Kd.R_nil _ _ _ _ _ | exact Kd.N_nil _ _ _ _ _ | exact Kd.V_nil _ _ _ _ _ | exact Kd.Q_nil _ _ _ _ _ | exact Kd.S_nil _ _ _ _ _⟩, ⟨by repeat (first | (with_reducible first | exact HB.out | apply below_alloc | apply pw_below_drewN | apply below_drew1) | exact HB.out)⟩⟩
                        case round =>
                          (clear H'); (try clear c1); (try clear c2); (try clear p2); (try clear q2); (try clear c3); (try clear c5); (try clear c6); (try clear c6b0); (try clear c6b1); (try clear p6); (try clear c8); (try clear c8b0); (try clear c10); (try clear c10b0); (try clear c10b1); (try clear c12); (try clear c16); (try clear c16b0); (try clear c17); (try clear c17b0); (try clear c17b1); (try clear c18); (try clear c18b0); (try clear c18b1); (try clear c19); (try clear c19b0); (try clear c19b1); (try clear c22); (try clear q22); (try clear p2); (try clear p6); (try clear q022); (try clear q22); (obtain ⟨x8_4, x9_4, rfl, HA, HK4, HO_6, HO_8, HB⟩ := hrel)
                          cases gk with
                          | zero => exact absurd HA.out (by simp [sawyerref01_Sum.l3])
                          | succ k4 =>
                            (have H := HA.out); (clear HA); (simp only [sawyerref01_Sum.l3] at H); (by_cases c26 : x9_4 < 8)
                            · (rw [if_pos c26] at H); (have c26b0 : decide (x9_4 < 8) = true := decide_eq_true c26); (clear c26); (by_cases c27 : 0 ≤ x9_4)
                              · (rw [if_pos c27] at H); (have c27b0 : decide (0 ≤ x9_4) = true := decide_eq_true c27); (clear c27); (by_cases c28 : x9_4 < (x6_3.length : Int))
                                · (rw [if_pos c28] at H); (have c28b0 : decide (x9_4 < (x6_3.length : Int)) = true := decide_eq_true c28); (clear c28); (obtain ⟨y366, hy366⟩ : ∃ y_ : List Int, y_ = (([((rd x6_3 x9_4) / 16777216) % 256, ((rd x6_3 x9_4) / 65536) % 256, ((rd x6_3 x9_4) / 256) % 256, (rd x6_3 x9_4) % 256] : List Int)) := ⟨_, rfl⟩); (replace H : (if x8_4.length + y366.length < 140737488355328 then (sawyerref01_Sum.l3 k4 x6_3 (x8_4 ++ y366) (wrap64 (x9_4 + 1))) else (none)) = some r := by first | (rw [hy366]; with_reducible exact H) | (have H2_ := (Option.bind_some _ _).symm.trans H; rw [hy366]; with_reducible exact H2_) | (have H2_ := (Option.bind_some _ _).symm.trans H; with_reducible exact H2_) | with_reducible exact H | (rw [hy366]; exact H) | exact H); (have Ny366 := Aside0.mk hy366); (clear hy366); (by_cases c29 : x8_4.length + y366.length < 140737488355328)
                                  · (rw [if_pos c29] at H); (have LMc29 := Aside0.mk c29); (clear c29); (obtain ⟨y369, hy369⟩ : ∃ y_ : List Int, y_ = (x8_4 ++ y366) := ⟨_, rfl⟩); (replace H : (sawyerref01_Sum.l3 k4 x6_3 y369 (wrap64 (x9_4 + 1))) = some r := by first | (rw [hy369]; with_reducible exact H) | (have H2_ := (Option.bind_some _ _).symm.trans H; rw [hy369]; with_reducible exact H2_) | (have H2_ := (Option.bind_some _ _).symm.trans H; with_reducible exact H2_) | with_reducible exact H | (rw [hy369]; exact H) | exact H); (have Ny369 := Aside0.mk hy369); (clear hy369); (have H' := Aside0.mk H); (clear H); (try go_wp2); (have n0_ := Aside0.mk (Kd.R_drew HO_6.out)); (have n1_ := Aside0.mk (Kd.R_drew HO_8.out)); (have n2_ := Aside0.mk (below_drew1 HB.out)); (clear HO_6); (clear HO_8); (clear HB); (have HO_6 := n0_); (have HO_8 := n1_); (have HB := n2_); (clear n0_ n1_ n2_); (obtain ⟨Ao31, co31, eo31⟩ := Kd.R_slice HO_6.out); ((first | subst eo31 | (injection eo31 with f1_ f2_ f3_; have f4_ := f1_.symm; have f5_ := f3_.symm; clear f1_ f2_ f3_; subst f4_; subst f5_))); (have p362 : 0 ≤ (x9_4 : Int) := of_decide_eq_true (by first | (with_reducible assumption) | assumption)); (have q362 : x9_4 < (x6_3.length : Int) := of_decide_eq_true (by first | (with_reducible assumption) | assumption)); (obtain ⟨ad362, e362, hx362_0⟩ := Kd.at_int (Kd.R_reads' HO_6.out).2.2 x9_4 p362 q362)
                                    cases e362
                                    (replace p362 := eq_true p362); (replace q362 := eq_true q362); (have p363 : 0 ≤ (x9_4 : Int) := of_decide_eq_true (by first | (with_reducible assumption) | assumption)); (have q363 : x9_4 < (x6_3.length : Int) := of_decide_eq_true (by first | (with_reducible assumption) | assumption)); (obtain ⟨ad363, e363, hx363_0⟩ := Kd.at_int (Kd.R_reads' HO_6.out).2.2 x9_4 p363 q363); (obtain rfl : ad362 = ad363 := (by injection e363)); (replace p363 := eq_true p363); (replace q363 := eq_true q363); (have p364 : 0 ≤ (x9_4 : Int) := of_decide_eq_true (by first | (with_reducible assumption) | assumption)); (have q364 : x9_4 < (x6_3.length : Int) := of_decide_eq_true (by first | (with_reducible assumption) | assumption)); (obtain ⟨ad364, e364, hx364_0⟩ := Kd.at_int (Kd.R_reads' HO_6.out).2.2 x9_4 p364 q364); (obtain rfl : ad362 = ad364 := (by injection e364)); (replace p364 := eq_true p364); (replace q364 := eq_true q364); (have p365 : 0 ≤ (x9_4 : Int) := of_decide_eq_true (by first | (with_reducible assumption) | assumption)); (have q365 : x9_4 < (x6_3.length : Int) := of_decide_eq_true (by first | (with_reducible assumption) | assumption)); (obtain ⟨ad365, e365, hx365_0⟩ := Kd.at_int (Kd.R_reads' HO_6.out).2.2 x9_4 p365 q365); (obtain rfl : ad362 = ad365 := (by injection e365)); (replace p365 := eq_true p365); (replace q365 := eq_true q365); (refine start_ (n := 27) (S := fun w' => w'.cell? (ad362.add (x9_4).toNat) = some (.int .u32 (rd x6_3 x9_4)) ∧ w'.cell? (ad362.add (x9_4).toNat) = some (.int .u32 (rd x6_3 x9_4)) ∧ w'.cell? (ad362.add (x9_4).toNat) = some (.int .u32 (rd x6_3 x9_4)) ∧ w'.cell? (ad362.add (x9_4).toNat) = some (.int .u32 (rd x6_3 x9_4))) (ds := [25]) (B01 27 0) (by kernel_rfl) rfl rfl ⟨hx362_0, hx363_0, hx364_0, hx365_0⟩ (fun hHeld => ?_); refine with_tabW sawyerref01_Sum.tab20 sawyerref01_Sum.bits20 (fun HT_ HW_ => ?_)); (generalize wr.drew = w30 at HO_6 HO_8 HB hx362_0 hx363_0 hx364_0 hx365_0 hHeld ⊢); (refine pure_ (i := 0) (N := some 57) (v := ?_) (a' := ?_) (B01 27 1) rfl rfl (any_of HT_.out (by kernel_rfl)) (fun _ _ _ h => h) (Or.inl ⟨by rfl, ?_⟩) ?_ ?_); (rotate_left); (focus ((intro w'); (go_simp); (with_reducible rfl))); (rotate_left); (focus ((simp only [Act.put, List.setIfInBounds_toArray, List.set_cons_zero, List.set_cons_succ, i64_w, i32_w]); (rfl))); (refine pure_ (i := 1) (N := some 58) (v := ?_) (a' := ?_) (B01 27 3) rfl rfl (any_of HT_.out (by kernel_rfl)) (fun _ _ _ h => h) (Or.inl ⟨by rfl, ?_⟩) ?_ ?_); (rotate_left); (focus ((intro w'); (go_simp); (with_reducible rfl))); (rotate_left); (focus ((simp only [Act.put, List.setIfInBounds_toArray, List.set_cons_zero, List.set_cons_succ, i64_w, i32_w]); (rfl))); (refine pure_ (i := 2) (N := some 59) (v := ?_) (a' := ?_) (B01 27 7) rfl rfl (any_of HT_.out (by kernel_rfl)) (fun _ _ _ h => h) (Or.inl ⟨by rfl, ?_⟩) ?_ ?_); (rotate_left); (focus ((intro w'); (go_simp); (with_reducible rfl))); (rotate_left); (focus ((simp only [Act.put, List.setIfInBounds_toArray, List.set_cons_zero, List.set_cons_succ, i64_w, i32_w]); (rfl))); (refine pure_ (i := 3) (N := some 60) (v := ?_) (a' := ?_) (B01 27 15) rfl rfl (any_of HT_.out (by kernel_rfl)) (fun _ _ _ h => h) (Or.inl ⟨by rfl, ?_⟩) ?_ ?_); (rotate_left); (focus ((intro w'); (go_simp); (with_reducible rfl))); (rotate_left); (focus ((simp only [Act.put, List.setIfInBounds_toArray, List.set_cons_zero, List.set_cons_succ, i64_w, i32_w]); (rfl))); (refine pure_ (i := 7) (N := some 64) (v := ?_) (a' := ?_) (B01 27 143) rfl rfl (any_of HT_.out (by kernel_rfl)) (fun _ _ _ h => h) (Or.inl ⟨by rfl, ?_⟩) ?_ ?_); (rotate_left); (focus ((intro w'); (go_simp); (with_reducible rfl))); (rotate_left); (focus ((simp only [Act.put, List.setIfInBounds_toArray, List.set_cons_zero, List.set_cons_succ, i64_w, i32_w]); (rfl))); (refine pure_ (i := 8) (N := some 65) (v := ?_) (a' := ?_) (B01 27 399) rfl rfl (any_of HT_.out (by kernel_rfl)) (fun _ _ _ h => h) (Or.inl ⟨by rfl, ?_⟩) ?_ ?_); (rotate_left); (focus ((intro w'); (go_simp); (with_reducible rfl))); (rotate_left); (focus ((simp only [Act.put, List.setIfInBounds_toArray, List.set_cons_zero, List.set_cons_succ, i64_w, i32_w]); (rfl))); (refine pure_ (i := 9) (N := some 66) (v := ?_) (a' := ?_) (B01 27 911) rfl rfl (any_of HT_.out (by kernel_rfl)) (fun _ _ _ h => h) (Or.inl ⟨by rfl, ?_⟩) ?_ ?_); (rotate_left); (focus ((intro w'); (go_simp); (with_reducible rfl))); (rotate_left); (focus ((simp only [Act.put, List.setIfInBounds_toArray, List.set_cons_zero, List.set_cons_succ, i64_w, i32_w]); (rfl)))
                                    (refine pure_ (i := 13) (N := some 70) (v := ?_) (a' := ?_) (B01 27 9103) rfl rfl (any_of HT_.out (by kernel_rfl)) (fun _ _ _ h => h) (Or.inl ⟨by rfl, ?_⟩) ?_ ?_); (rotate_left); (focus ((intro w'); (go_simp); (with_reducible rfl))); (rotate_left); (focus ((simp only [Act.put, List.setIfInBounds_toArray, List.set_cons_zero, List.set_cons_succ, i64_w, i32_w]); (rfl))); (refine pure_ (i := 14) (N := some 71) (v := ?_) (a' := ?_) (B01 27 25487) rfl rfl (any_of HT_.out (by kernel_rfl)) (fun _ _ _ h => h) (Or.inl ⟨by rfl, ?_⟩) ?_ ?_); (rotate_left); (focus ((intro w'); (go_simp); (with_reducible rfl))); (rotate_left); (focus ((simp only [Act.put, List.setIfInBounds_toArray, List.set_cons_zero, List.set_cons_succ, i64_w, i32_w]); (rfl))); (refine pure_ (i := 15) (N := some 72) (v := ?_) (a' := ?_) (B01 27 58255) rfl rfl (any_of HT_.out (by kernel_rfl)) (fun _ _ _ h => h) (Or.inl ⟨by rfl, ?_⟩) ?_ ?_); (rotate_left); (focus ((intro w'); (go_simp); (with_reducible rfl))); (rotate_left); (focus ((simp only [Act.put, List.setIfInBounds_toArray, List.set_cons_zero, List.set_cons_succ, i64_w, i32_w]); (rfl))); (refine pure_ (i := 19) (N := some 76) (v := ?_) (a' := ?_) (B01 27 582543) rfl rfl (any_of HT_.out (by kernel_rfl)) (fun _ _ _ h => h) (Or.inl ⟨by rfl, ?_⟩) ?_ ?_); (rotate_left); (focus ((intro w'); (go_simp); (with_reducible rfl))); (rotate_left); (focus ((simp only [Act.put, List.setIfInBounds_toArray, List.set_cons_zero, List.set_cons_succ, i64_w, i32_w]); (rfl))); (refine pure_ (i := 20) (N := some 77) (v := ?_) (a' := ?_) (B01 27 1631119) rfl rfl (any_of HT_.out (by kernel_rfl)) (fun _ _ _ h => h) (Or.inl ⟨by rfl, ?_⟩) ?_ ?_); (rotate_left); (focus ((intro w'); (go_simp); (with_reducible rfl))); (rotate_left); (focus ((simp only [Act.put, List.setIfInBounds_toArray, List.set_cons_zero, List.set_cons_succ, i64_w, i32_w]); (rfl))); (refine pure_ (i := 21) (N := some 78) (v := ?_) (a' := ?_) (B01 27 3728271) rfl rfl (any_of HT_.out (by kernel_rfl)) (fun _ _ _ h => h) (Or.inl ⟨by rfl, ?_⟩) ?_ ?_); (rotate_left); (focus ((intro w'); (go_simp); (with_reducible rfl))); (rotate_left); (focus ((simp only [Act.put, List.setIfInBounds_toArray, List.set_cons_zero, List.set_cons_succ, i64_w, i32_w]); (rfl))); (refine take_ (i := 4) (N := some 61) (v := ?_) (a' := ?_) (B01 27 3728287) rfl rfl (take_ofW HT_.out HW_.out (by kernel_rfl)) (fun _ _ _ h => h) (Or.inl ⟨by rfl, ?_⟩) hHeld ?_ ?_); (rotate_left); (focus ((rintro w' ⟨s0, s1, s2, s3⟩); (go_simp); (with_reducible rfl))); (rotate_left); (focus ((simp only [Act.put, List.setIfInBounds_toArray, List.set_cons_zero, List.set_cons_succ, i64_w, i32_w]); (rfl))); (refine pure_ (i := 5) (N := some 62) (v := ?_) (a' := ?_) (B01 27 3728319) rfl rfl (any_of HT_.out (by kernel_rfl)) (fun _ _ _ h => h) (Or.inl ⟨by rfl, ?_⟩) ?_ ?_); (rotate_left); (focus ((intro w'); (go_simp); (with_reducible rfl))); (rotate_left); (focus ((simp only [Act.put, List.setIfInBounds_toArray, List.set_cons_zero, List.set_cons_succ, i64_w, i32_w]); (rfl))); (refine pure_ (i := 6) (N := some 63) (v := ?_) (a' := ?_) (B01 27 3728383) rfl rfl (any_of HT_.out (by kernel_rfl)) (fun _ _ _ h => h) (Or.inl ⟨by rfl, ?_⟩) ?_ ?_); (rotate_left); (focus ((intro w'); (go_simp); (with_reducible rfl))); (rotate_left); (focus ((simp only [Act.put, List.setIfInBounds_toArray, List.set_cons_zero, List.set_cons_succ, i64_w, i32_w]); (rfl))); (refine take_ (i := 10) (N := some 67) (v := ?_) (a' := ?_) (B01 27 3729407) rfl rfl (take_ofW HT_.out HW_.out (by kernel_rfl)) (fun _ _ _ h => h) (Or.inl ⟨by rfl, ?_⟩) hHeld ?_ ?_); (rotate_left); (focus ((rintro w' ⟨s0, s1, s2, s3⟩); (go_simp); (with_reducible rfl))); (rotate_left); (focus ((simp only [Act.put, List.setIfInBounds_toArray, List.set_cons_zero, List.set_cons_succ, i64_w, i32_w]); (rfl))); (refine pure_ (i := 11) (N := some 68) (v := ?_) (a' := ?_) (B01 27 3731455) rfl rfl (any_of HT_.out (by kernel_rfl)) (fun _ _ _ h => h) (Or.inl ⟨by rfl, ?_⟩) ?_ ?_); (rotate_left); (focus ((intro w'); (go_simp); (with_reducible rfl))); (rotate_left); (focus ((simp only [Act.put, List.setIfInBounds_toArray, List.set_cons_zero, List.set_cons_succ, i64_w, i32_w]); (rfl)))
                                    (refine pure_ (i := 12) (N := some 69) (v := ?_) (a' := ?_) (B01 27 3735551) rfl rfl (any_of HT_.out (by kernel_rfl)) (fun _ _ _ h => h) (Or.inl ⟨by rfl, ?_⟩) ?_ ?_); (rotate_left); (focus ((intro w'); (go_simp); (with_reducible rfl))); (rotate_left); (focus ((simp only [Act.put, List.setIfInBounds_toArray, List.set_cons_zero, List.set_cons_succ, i64_w, i32_w]); (rfl))); (refine take_ (i := 16) (N := some 73) (v := ?_) (a' := ?_) (B01 27 3801087) rfl rfl (take_ofW HT_.out HW_.out (by kernel_rfl)) (fun _ _ _ h => h) (Or.inl ⟨by rfl, ?_⟩) hHeld ?_ ?_); (rotate_left); (focus ((rintro w' ⟨s0, s1, s2, s3⟩); (go_simp); (with_reducible rfl))); (rotate_left); (focus ((simp only [Act.put, List.setIfInBounds_toArray, List.set_cons_zero, List.set_cons_succ, i64_w, i32_w]); (rfl))); (refine pure_ (i := 17) (N := some 74) (v := ?_) (a' := ?_) (B01 27 3932159) rfl rfl (any_of HT_.out (by kernel_rfl)) (fun _ _ _ h => h) (Or.inl ⟨by rfl, ?_⟩) ?_ ?_); (rotate_left); (focus ((intro w'); (go_simp); (with_reducible rfl))); (rotate_left); (focus ((simp only [Act.put, List.setIfInBounds_toArray, List.set_cons_zero, List.set_cons_succ, i64_w, i32_w]); (rfl))); (refine pure_ (i := 18) (N := some 75) (v := ?_) (a' := ?_) (B01 27 4194303) rfl rfl (any_of HT_.out (by kernel_rfl)) (fun _ _ _ h => h) (Or.inl ⟨by rfl, ?_⟩) ?_ ?_); (rotate_left); (focus ((intro w'); (go_simp); (with_reducible rfl))); (rotate_left); (focus ((simp only [Act.put, List.setIfInBounds_toArray, List.set_cons_zero, List.set_cons_succ, i64_w, i32_w]); (rfl))); (refine take_ (i := 22) (N := some 79) (v := ?_) (a' := ?_) (B01 27 8388607) rfl rfl (take_ofW HT_.out HW_.out (by kernel_rfl)) (fun _ _ _ h => h) (Or.inl ⟨by rfl, ?_⟩) hHeld ?_ ?_); (rotate_left); (focus ((rintro w' ⟨s0, s1, s2, s3⟩); (go_simp); (with_reducible rfl))); (rotate_left); (focus ((simp only [Act.put, List.setIfInBounds_toArray, List.set_cons_zero, List.set_cons_succ, i64_w, i32_w]); (rfl))); (refine pure_ (i := 23) (N := some 80) (v := ?_) (a' := ?_) (B01 27 16777215) rfl rfl (any_of HT_.out (by kernel_rfl)) (fun _ _ _ h => h) (Or.inl ⟨by rfl, ?_⟩) ?_ ?_); (rotate_left); (focus ((intro w'); (go_simp); (with_reducible rfl))); (rotate_left); (focus ((simp only [Act.put, List.setIfInBounds_toArray, List.set_cons_zero, List.set_cons_succ, i64_w, i32_w]); (rfl))); (refine one_ (i := 24) (N := some 81) (B01 27 33554431) rfl rfl (one_of HT_.out (by kernel_rfl)) (by decide) (fun K hK => ?_)); (refine Kd.R_lit_step (Kd.int .u8) _ 5 ?hg (N := 81) ?hd (xs := ([((rd x6_3 x9_4) / 16777216) % 256, ((rd x6_3 x9_4) / 65536) % 256, ((rd x6_3 x9_4) / 256) % 256, (rd x6_3 x9_4) % 256] : List Int)) (inner := [.int .u8 (((rd x6_3 x9_4) / 16777216) % 256), .int .u8 (((rd x6_3 x9_4) / 65536) % 256), .int .u8 (((rd x6_3 x9_4) / 256) % 256), .int .u8 ((rd x6_3 x9_4) % 256)]) (ok := fun _ => True) (okp := fun _ => True) ?hr ?hp (fun _ hk => hk) trivial (Below.refl _ _) (Nat.le_refl _) (by simp) ?_; (case hd => rfl); (case hg => rfl); (case hr => first | (go_simp; done) | (go_simp; rfl) | (go_simp; simp [IntKind.wrap_u32]; done)); (case hp => exact (Reps.one (show Kd.M (Kd.int .u8) _ _ _ (((rd x6_3 x9_4) / 16777216) % 256) [.int .u8 (((rd x6_3 x9_4) / 16777216) % 256)] from rfl) (Reps.one (show Kd.M (Kd.int .u8) _ _ _ (((rd x6_3 x9_4) / 65536) % 256) [.int .u8 (((rd x6_3 x9_4) / 65536) % 256)] from rfl) (Reps.one (show Kd.M (Kd.int .u8) _ _ _ (((rd x6_3 x9_4) / 256) % 256) [.int .u8 (((rd x6_3 x9_4) / 256) % 256)] from rfl) (Reps.one (show Kd.M (Kd.int .u8) _ _ _ ((rd x6_3 x9_4) % 256) [.int .u8 ((rd x6_3 x9_4) % 256)] from rfl) (Reps.none _ _))))))); (intro v367 w32 ho33 hb hg_ hnew_); (have HS0_ := (hb.cell (World.block_lt_of_cell? _ _ (hHeld.1))).trans (hHeld.1)); (have HS1_ := (hb.cell (World.block_lt_of_cell? _ _ (hHeld.2.1))).trans (hHeld.2.1)); (have HS2_ := (hb.cell (World.block_lt_of_cell? _ _ (hHeld.2.2.1))).trans (hHeld.2.2.1)); (have HS3_ := (hb.cell (World.block_lt_of_cell? _ _ (hHeld.2.2.2))).trans (hHeld.2.2.2)); (clear hg_ hnew_); ((first | rw [← Ny366.out] at ho33 | (simp only [Int.reduceToNat] at ho33; rw [← Ny366.out] at ho33))); (have n0_ := Aside0.mk (Kd.R_below (by (with_reducible repeat (first | apply Kd.R_alloc | apply Kd.R_drewN | apply Kd.R_drew)); exact HO_6.out) hb)); (have n1_ := Aside0.mk (Kd.R_elder' (by (with_reducible repeat (first | apply Kd.R_alloc | apply Kd.R_drewN | apply Kd.R_drew)); exact HO_8.out) (Kd.R_base ho33) hb)); (have n2_ := Aside0.mk (Kd.R_lower (Kd.R_new' ho33 (Kd.R_lt (by (with_reducible repeat (first | apply Kd.R_alloc | apply Kd.R_drewN | apply Kd.R_drew)); exact HO_8.out))) (below_size (by repeat (first | (with_reducible first | exact HB.out | apply below_alloc | apply pw_below_drewN | apply below_drew1) | exact HB.out))))); (have n3_ := Aside0.mk (below_step (by repeat (first | (with_reducible first | exact HB.out | apply below_alloc | apply pw_below_drewN | apply below_drew1) | exact HB.out)) hb))
                                    (clear HO_6); (clear HO_8); (clear HB); (have HO_6 := n0_); (have HO_8 := n1_); (have HO368 := n2_); (have HB := n3_); (clear n0_ n1_ n2_ n3_); (clear hb ho33); (obtain ⟨Ao35, co35, eo35⟩ := Kd.R_slice HO368.out); ((first | subst eo35 | (injection eo35 with f1_ f2_ f3_; have f4_ := f1_.symm; have f5_ := f3_.symm; clear f1_ f2_ f3_; subst f4_; subst f5_))); (refine hK.out _ _ ⟨HS0_, HS1_, HS2_, HS3_⟩ (fun hHeld => ?_)); (clear hK K); (refine norm_ (a' := ?_) ?_ ?_); (rotate_left); (focus ((show Act.put _ (some 81) _ = _); (simp only [Act.put, List.setIfInBounds_toArray, List.set_cons_zero, List.set_cons_succ, i64_w, i32_w]); (rfl))); (refine last_ (i := 25) (N := some 82) (B01 27 67108863) rfl rfl (one_of HT_.out (by kernel_rfl)) (by decide) (fun K hK => ?_)); (refine Kd.R_append_rows_step (Kd.int .u8) (w0 := w) w.heap.size (by rfl) (.tmp 57) (.tmp 81) 23 5 (.int .u8 0) 1 rfl Try.underlying23 info5 rfl (by decide) (by omega) u8 x8_4 y366 _ _ _ (fun k_ => some k_ ≠ (.slice Ao35 y366.length co35 : Value).ownBlock) (fun _ => False) rfl rfl ?aO ?aR (fun _ _ h => h) (fun _ h => h.elim) ?aF ?aB ?aS ?aL ?_); ((case aR => repeat (first | exact (Kd.R_reads' HO368.out).2.2 | (with_reducible refine Kd.C_alloc ?_ _) | (with_reducible refine Kd.C_drewN ?_ _) | (with_reducible refine Kd.C_drew ?_)))); ((case aB => exact (by repeat (first | (with_reducible first | exact HB.out | apply below_alloc | apply pw_below_drewN | apply below_drew1) | exact HB.out)))); ((case aF => exact (fun k_ hk => Kd.fresh' (Kd.R_lt (by (with_reducible repeat (first | apply Kd.R_alloc | apply Kd.R_drewN | apply Kd.R_drew)); exact HO368.out)) k_ hk))); ((case aO => exact (by (with_reducible repeat (first | apply Kd.R_alloc | apply Kd.R_drewN | apply Kd.R_drew)); exact Kd.R_mono HO_8.out (fun _ hk => hk.2)))); ((case aS => exact (below_size (by repeat (first | (with_reducible first | exact HB.out | apply below_alloc | apply pw_below_drewN | apply below_drew1) | exact HB.out))))); ((case aL => have := LMc29.out; omega)); (intro v370 w34 ho hb hg hat); (rw [← Ny369.out] at ho); (have n0_ := Aside0.mk (Kd.R_over' (by (with_reducible repeat (first | apply Kd.R_alloc | apply Kd.R_drewN | apply Kd.R_drew)); exact HO_6.out) (Kd.R_typed (by (with_reducible repeat (first | apply Kd.R_alloc | apply Kd.R_drewN | apply Kd.R_drew)); exact HO_8.out)) (by decide) hg)); (have n1_ := Aside0.mk (Kd.R_after (ok := (fun _ => True)) (by (with_reducible repeat (first | apply Kd.R_alloc | apply Kd.R_drewN | apply Kd.R_drew)); exact HO368.out) hg hat)); (have n2_ := Aside0.mk (hb)); (have n3_ := Aside0.mk (ho)); (clear HO_6); (clear HO368); (clear HB); (clear HO_8); (have HO_6 := n0_); (have HO368 := n1_); (have HB := n2_); (have HO371 := n3_); (clear n0_ n1_ n2_ n3_); (clear ho hb hg hat); (refine hK.out _ _ ?_); (clear hK K); (refine norm_ (a' := ?_) ?_ ?_); (rotate_left); (focus ((show Act.put _ (some 82) _ = _); (simp only [Act.put, List.setIfInBounds_toArray, List.set_cons_zero, List.set_cons_succ, i64_w, i32_w]); (rfl))); (refine pure_ (i := 26) (N := some 8) (v := ?_) (a' := ?_) (B01 27 134217727) rfl rfl (any_of HT_.out (by kernel_rfl)) (fun _ _ _ h => h) (Or.inl ⟨by rfl, ?_⟩) ?_ ?_); (rotate_left); (focus ((intro w'); (go_simp); (with_reducible rfl))); (rotate_left); (focus ((simp only [Act.put, List.setIfInBounds_toArray, List.set_cons_zero, List.set_cons_succ, i64_w, i32_w]); (rfl))); (refine done_ (done_of HT_.out (by kernel_rfl)) ?_); (try go_wp2); (go_roundg k4)
                                    case measure => have := HK1.out; have := HK2.out; have := HK3.out; have := HK4.out; omega
                                    case rel => exact ⟨(y369), (wrap64 (x9_4 + 1)), (by first | rfl | (simp; done) | (simp [*]; done)), H', ⟨by have := HK1.out; have := HK2.out; have := HK3.out; have := HK4.out; omega⟩, ⟨by (with_reducible repeat (first | apply Kd.R_alloc | apply Kd.R_drewN | apply Kd.R_drew)); exact HO_6.out⟩, ⟨by (with_reducible repeat (first | apply Kd.R_alloc | apply Kd.R_drewN | apply Kd.R_drew)); exact Kd.R_mono HO371.out (fun _ hk => trivial)⟩, ⟨by repeat (first | (with_reducible first | exact HB.out | apply below_alloc | apply pw_below_drewN | apply below_drew1) | exact HB.out)⟩⟩
                                  focus ((rw [if_neg c29] at H); (exact absurd H (by simp)))
                                focus ((rw [if_neg c28] at H); (exact absurd H (by simp)))
                              focus ((rw [if_neg c27] at H); (exact absurd H (by simp)))
                            focus ((rw [if_neg c26] at H); (have c26b0 : decide (x9_4 < 8) = false := decide_eq_false c26); (clear c26); (obtain rfl := Option.some.inj H); (have hcv36 := own_string (P := Try.prog) Try.underlying23 Try.underlying5 Try.underlying9 (Kd.own_of_R HO_8.out)); (go_wp2); (go_ret); (exact ⟨by first | rfl | (simp [errW_none, errW_some] <;> rfl) | (simp [*, errW_none, errW_some] <;> rfl), by repeat (first | (with_reducible first | exact HB.out | apply below_alloc | apply pw_below_drewN | apply below_drew1) | exact HB.out)⟩))
          · (rw [if_neg c6] at H); (have c6b0 : (((x3_1.length : Int) % 64) == 56) = false := beq_eq_false_iff_ne.mpr c6); (have c6b1 : (((x3_1.length : Int) % 64) != 56) = true := bne_iff_ne.mpr c6); (by_cases c37 : x3_1.length < 140737488355328)
            · (rw [if_pos c37] at H); (have LMc37 := Aside0.mk c37); (clear c37); (obtain ⟨y346, hy346⟩ : ∃ y_ : List Int, y_ = (x3_1 ++ [0]) := ⟨_, rfl⟩); (replace H : (sawyerref01_Sum.l0 k1 l0 y346) = some r := by first | (rw [hy346]; with_reducible exact H) | (have H2_ := (Option.bind_some _ _).symm.trans H; rw [hy346]; with_reducible exact H2_) | (have H2_ := (Option.bind_some _ _).symm.trans H; with_reducible exact H2_) | with_reducible exact H | (rw [hy346]; exact H) | exact H); (have Ny346 := Aside0.mk hy346); (clear hy346); (have H' := Aside0.mk H); (clear H); (obtain ⟨Ao38, co38, eo38⟩ := Kd.R_slice HO_3.out); (subst eo38); (go_wp2_with (first | ((with_reducible refine gate_builtin (b := .append) (xs := #[.tmp 20, .tmp 21]) rfl ?_); at_builtin; refine Kd.R_append (Kd.int .u8) (w0 := w) w.heap.size rfl (.tmp 20) (.tmp 21) 23 5 (.int .u8 0) 1 rfl Try.underlying23 info5 rfl (by decide) (by omega) (.slice Ao38 x3_1.length co38) x3_1 0 [.int .u8 0] (fun _ => True) (fun _ => False) rfl rfl ?aP (fun _ hk => hk.elim) ?aF ?aO ?aB ?aS ?aL ?_; (case aP => exact rfl); (case aB => exact (by repeat (first | (with_reducible first | exact HB.out | apply below_alloc | apply pw_below_drewN | apply below_drew1) | exact HB.out))); (case aF => exact (fun _ _ => trivial)); (case aO => exact (by (with_reducible repeat (first | apply Kd.R_alloc | apply Kd.R_drewN | apply Kd.R_drew)); exact HO_3.out)); (case aS => exact (below_size (by repeat (first | (with_reducible first | exact HB.out | apply below_alloc | apply pw_below_drewN | apply below_drew1) | exact HB.out)))); (case aL => have := LMc37.out; omega); intro v347 w39 ho hb hg hat; rw [← Ny346.out] at ho; have n0_ := Aside0.mk (hb); have n1_ := Aside0.mk (ho); clear HB; clear HO_3; have HB := n0_; have HO348 := n1_; clear n0_ n1_; clear ho hb hg hat))); (go_roundg k1)
              case measure => have := HK1.out; omega
              case rel => exact ⟨(y346), H', ⟨by have := HK1.out; omega⟩, ⟨by (with_reducible repeat (first | apply Kd.R_alloc | apply Kd.R_drewN | apply Kd.R_drew)); exact HO348.out⟩, ⟨by repeat (first | (with_reducible first | exact HB.out | apply below_alloc | apply pw_below_drewN | apply below_drew1) | exact HB.out)⟩⟩
            focus ((rw [if_neg c37] at H); (exact absurd H (by simp)))
    focus ((rw [if_neg c3] at H); (exact absurd H (by simp)))
  focus ((rw [if_neg c2] at H); (exact absurd H (by simp)))
end Go.Proofs.Ytkbbdbnjplcjdaa.F
end
section
/-
  The document's own answer (sawyerref01.Sum) is the hash of the plain text Sha, too: plain lists, no program.
-/
namespace Go.Proofs.Ytkbbdbnjplcjdaa.F
open Go.RowKit Go.Proofs.YtkbbdbnjplcjdaaW.PrintWords Go.Proofs.YtkbbdbnjplcjdaaW.PrintLast Go.Proofs.YtkbbdbnjplcjdaaW.PrintMore
set_option linter.unusedVariables false
set_option linter.unusedSimpArgs false
theorem w64 (x : Int) (h0 : -9223372036854775808 ≤ x) (h1 : x ≤ 9223372036854775807) : wrap64 x = x := by unfold wrap64; omega
theorem bits_or_comm (x y : Int) : Go.bits .or .u32 x y = Go.bits .or .u32 y x := by
  simp only [Go.bits, BitVec.or_comm]
theorem turned_is (x : Int) (n : Nat) (h0 : 0 < n) (h : n ≤ 32) : sawyerref01_turned.f x (n : Int) = some (Sha.rot x n) := by
  unfold sawyerref01_turned.f
  rw [if_pos (by omega), w64 _ (by omega) (by omega), if_pos (by omega)]
  congr 1
  unfold Sha.rot shr shl
  rw [bits_or_comm, IntKind.wrap_u32]
  have e1 : min (n : Int).toNat (IntKind.bits .u32) = n := by show min (n : Int).toNat 32 = n; omega
  have e2 : min (32 - (n : Int)).toNat (IntKind.bits .u32) = 32 - n := by show min (32 - (n : Int)).toNat 32 = 32 - n; omega
  rw [e1, e2]
theorem rd_nat (l : List Int) (i : Nat) : rd l (i : Int) = l.getD i 0 := by simp [rd]
theorem words_l1 (d : Nat) : ∀ (t : Nat) (p : List Int), t + d = 64 → 16 ≤ t → p.length = t → Ev (fun k => sawyerref01_words.l1 k p (t : Int)) (Sha.ext d p) := by
  induction d with
  | zero =>
    intro t p ht h16 hp
    refine Ev.step (f := fun _ => some p) (fun k => ?_) (Ev.now _)
    simp only [sawyerref01_words.l1]
    rw [if_neg (by omega)]
  | succ d ih =>
    intro t p ht h16 hp
    have := ih (t + 1) (p ++ [Sha.next p]) (by omega) (by omega) (by simp [hp])
    refine Ev.step (fun k => ?_) this
    simp only [sawyerref01_words.l1]
    rw [if_pos (by omega)]
    rw [show wrap64 ((t : Int) - 15) = ((t - 15 : Nat) : Int) by rw [w64 _ (by omega) (by omega)]; omega, show wrap64 ((t : Int) - 2) = ((t - 2 : Nat) : Int) by rw [w64 _ (by omega) (by omega)]; omega, show wrap64 ((t : Int) - 16) = ((t - 16 : Nat) : Int) by rw [w64 _ (by omega) (by omega)]; omega, show wrap64 ((t : Int) - 7) = ((t - 7 : Nat) : Int) by rw [w64 _ (by omega) (by omega)]; omega, show wrap64 ((t : Int) + 1) = ((t + 1 : Nat) : Int) by rw [w64 _ (by omega) (by omega)]; omega]
    simp only [rd_nat]
    have e7 := turned_is (p.getD (t - 15) 0) 7 (by omega) (by omega)
    have e18 := turned_is (p.getD (t - 15) 0) 18 (by omega) (by omega)
    have e17 := turned_is (p.getD (t - 2) 0) 17 (by omega) (by omega)
    have e19 := turned_is (p.getD (t - 2) 0) 19 (by omega) (by omega)
    rw [if_pos (by omega), if_pos (by omega), if_pos (by omega), if_pos (by omega)]
    erw [e7, e18, e17, e19]
    simp only [Option.bind_some]
    rw [if_pos (by omega), if_pos (by omega), if_pos (by omega), if_pos (by omega), if_pos (by omega)]
    congr 2
    unfold Sha.next
    rw [hp]
    show [_] = [(p.getD (t - 16) 0 + p.getD (t - 7) 0 + Sha.small0 (p.getD (t - 15) 0) + Sha.small1 (p.getD (t - 2) 0)) % 4294967296]
    unfold Sha.small0 Sha.small1 Sha.xor
    congr 1
    omega
theorem words_l0 (l : List Int) (hl : l.length = 64) (hb : ∀ x ∈ l, 0 ≤ x ∧ x < 256) (d : Nat) : ∀ (i : Nat), i + d = 16 → Ev (fun k => sawyerref01_words.l0 k l (Sha.first i l) (i : Int)) (Sha.words l) := by
  induction d with
  | zero =>
    intro i hi
    obtain rfl : i = 16 := by omega
    refine Ev.step (fun k => ?_) (words_l1 48 16 (Sha.first 16 l) (by omega) (by omega) (Sha.first_length _ _))
    simp only [sawyerref01_words.l0]
    rw [if_neg (by omega)]
    rfl
  | succ d ih =>
    intro i hi
    refine Ev.step (fun k => ?_) (ih (i + 1) (by omega))
    simp only [sawyerref01_words.l0]
    rw [if_pos (by omega)]
    rw [show wrap64 (4 * (i : Int)) = ((4 * i : Nat) : Int) by rw [w64 _ (by omega) (by omega)]; omega]
    rw [show wrap64 (((4 * i : Nat) : Int) + 1) = ((4 * i + 1 : Nat) : Int) by rw [w64 _ (by omega) (by omega)]; omega, show wrap64 (((4 * i : Nat) : Int) + 2) = ((4 * i + 2 : Nat) : Int) by rw [w64 _ (by omega) (by omega)]; omega, show wrap64 (((4 * i : Nat) : Int) + 3) = ((4 * i + 3 : Nat) : Int) by rw [w64 _ (by omega) (by omega)]; omega, show wrap64 ((i : Int) + 1) = ((i + 1 : Nat) : Int) by rw [w64 _ (by omega) (by omega)]; omega]
    simp only [rd_nat]
    rw [if_pos (by omega), if_pos (by omega), if_pos (by omega), if_pos (by omega), if_pos (by omega), if_pos (by omega), if_pos (by omega), if_pos (by omega), if_pos (by rw [Sha.first_length]; omega)]
    congr 1
    show _ ++ [_] = Sha.first i l ++ [Sha.word l i]
    congr 2
    unfold Sha.word
    have hm : ∀ j, j < 64 → 0 ≤ l.getD j 0 ∧ l.getD j 0 < 256 := fun j hj => by
      rw [List.getD_eq_getElem?_getD, List.getElem?_eq_getElem (by omega)]
      exact hb _ (List.getElem_mem _)
    have b0 := hm (4 * i) (by omega)
    have b1 := hm (4 * i + 1) (by omega)
    have b2 := hm (4 * i + 2) (by omega)
    have b3 := hm (4 * i + 3) (by omega)
    omega
theorem words_is (l : List Int) (hl : l.length = 64) (hb : ∀ x ∈ l, 0 ≤ x ∧ x < 256) : Ev (fun k => sawyerref01_words.f k l) (Sha.words l) :=
  words_l0 l hl hb 16 0 (by omega)
theorem take_l1 (s r : List Int) (hs : s.length = 8) (hr : r.length = 8) (d : Nat) : ∀ (i : Nat), i + d = 8 → Ev (fun k => sawyerref01_take.l1 k s r ((List.zipWith (fun x y => (x + y) % 4294967296) s r).take i) (i : Int)) (List.zipWith (fun x y => (x + y) % 4294967296) s r) := by
  induction d with
  | zero =>
    intro i hi
    refine Ev.step (f := fun _ => some _) (fun k => ?_) (Ev.now _)
    simp only [sawyerref01_take.l1]
    rw [if_neg (by omega), List.take_of_length_le (by simp; omega)]
  | succ d ih =>
    intro i hi
    refine Ev.step (fun k => ?_) (ih (i + 1) (by omega))
    simp only [sawyerref01_take.l1]
    rw [if_pos (by omega), if_pos (by omega), if_pos (by omega), if_pos (by omega), if_pos (by simp; omega), show wrap64 ((i : Int) + 1) = ((i + 1 : Nat) : Int) by rw [w64 _ (by omega) (by omega)]; omega]
    simp only [rd_nat]
    congr 1
    have hz : i < (List.zipWith (fun x y => (x + y) % 4294967296) s r).length := by simp; omega
    rw [List.take_succ_eq_append_getElem hz]
    simp [List.getD_eq_getElem?_getD, show i < s.length by omega, show i < r.length by omega]
theorem eight (s : List Int) (h : s.length = 8) : ∃ a b c d e f g i, s = [a, b, c, d, e, f, g, i] := by
  match s, h with
  | [a, b, c, d, e, f, g, i], _ => exact ⟨a, b, c, d, e, f, g, i, rfl⟩
theorem take_l0 (s0 W : List Int) (h0 : s0.length = 8) (hW : W.length = 64) (d : Nat) : ∀ (t : Nat) (s : List Int), t + d = 64 → s.length = 8 →
    Ev (fun k => sawyerref01_take.l0 k s0 W Sha.K s (t : Int)) (List.zipWith (fun x y => (x + y) % 4294967296) s0 (Sha.rounds (Sha.K.drop t) (W.drop t) s)) := by
  induction d with
  | zero =>
    intro t s ht hs
    obtain rfl : t = 64 := by omega
    rw [List.drop_eq_nil_of_le (show Sha.K.length ≤ 64 from Nat.le_refl _)]
    refine Ev.step (fun k => ?_) (take_l1 s0 s h0 hs 8 0 (by omega))
    simp only [sawyerref01_take.l0]
    rw [if_neg (by omega)]
    rfl
  | succ d ih =>
    intro t s ht hs
    obtain ⟨a, b, c, e4, e, f, g, h, rfl⟩ := eight s hs
    have hKl : t < Sha.K.length := show t < 64 by omega
    have hWl : t < W.length := by omega
    have hK : Sha.K.drop t = Sha.K.getD t 0 :: Sha.K.drop (t + 1) := by
      rw [List.drop_eq_getElem_cons hKl, List.getD_eq_getElem?_getD, List.getElem?_eq_getElem hKl]
      rfl
    have hWd : W.drop t = W.getD t 0 :: W.drop (t + 1) := by
      rw [List.drop_eq_getElem_cons hWl, List.getD_eq_getElem?_getD, List.getElem?_eq_getElem hWl]
      rfl
    rw [hK, hWd]
    simp only [Sha.rounds]
    have h2 := ih (t + 1) (Sha.step (Sha.K.getD t 0) (W.getD t 0) [a, b, c, e4, e, f, g, h]) (by omega) (Sha.step_length _ _ _ rfl)
    refine Ev.step (fun k => ?_) h2
    simp only [sawyerref01_take.l0]
    have t6 := turned_is e 6 (by omega) (by omega)
    have t11 := turned_is e 11 (by omega) (by omega)
    have t25 := turned_is e 25 (by omega) (by omega)
    have t2 := turned_is a 2 (by omega) (by omega)
    have t13 := turned_is a 13 (by omega) (by omega)
    have t22 := turned_is a 22 (by omega) (by omega)
    have r0 : rd [a, b, c, e4, e, f, g, h] 0 = a := rfl
    have r1 : rd [a, b, c, e4, e, f, g, h] 1 = b := rfl
    have r2 : rd [a, b, c, e4, e, f, g, h] 2 = c := rfl
    have r3 : rd [a, b, c, e4, e, f, g, h] 3 = e4 := rfl
    have r4 : rd [a, b, c, e4, e, f, g, h] 4 = e := rfl
    have r5 : rd [a, b, c, e4, e, f, g, h] 5 = f := rfl
    have r6 : rd [a, b, c, e4, e, f, g, h] 6 = g := rfl
    have r7 : rd [a, b, c, e4, e, f, g, h] 7 = h := rfl
    simp only [r0, r1, r2, r3, r4, r5, r6, r7, List.length_cons, List.length_nil, rd_nat]
    rw [if_pos (by omega), if_pos (by omega), if_pos (by omega), if_pos (by omega)]
    erw [t6, t11, t25]
    simp only [Option.bind_some]
    rw [if_pos (by omega), if_pos (by omega), if_pos (by omega), if_pos (by omega), if_pos (by omega)]
    erw [t2, t13, t22]
    simp only [Option.bind_some]
    rw [if_pos (by omega), if_pos (by omega), if_pos (by omega), show wrap64 ((t : Int) + 1) = ((t + 1 : Nat) : Int) by rw [w64 _ (by omega) (by omega)]; omega]
    congr 1
    show [_, _, _, _, _, _, _, _] = Sha.step (Sha.K.getD t 0) (W.getD t 0) [a, b, c, e4, e, f, g, h]
    unfold Sha.step Sha.x1 Sha.y1 Sha.big0 Sha.big1 Sha.ch Sha.maj Sha.xor Sha.and
    rw [show IntKind.u32.max = 4294967295 from rfl]
    congr 1
    · omega
    · congr 4
      omega
theorem take_is (s b : List Int) (hs : s.length = 8) (hl : b.length = 64) (hb : ∀ x ∈ b, 0 ≤ x ∧ x < 256) : Ev (fun k => sawyerref01_take.f k s b) (Sha.take s b) := by
  unfold sawyerref01_take.f
  refine Ev.bind (words_is b hl hb) ?_
  have ht : sawyerref01_table.f = some Sha.K := rfl
  simp only [ht, Option.bind_some, List.nil_append, List.length_nil]
  exact Ev.congr (fun k => by rw [if_pos (by omega)]; rfl) (take_l0 s (Sha.words b) hs (Sha.words_length b) 64 0 s (by omega) hs)
/-! ### Sum, loop by loop -/
theorem sum_l3 (s : List Int) (hs : s.length = 8) (d : Nat) : ∀ (i : Nat), i + d = 8 → Ev (fun k => sawyerref01_Sum.l3 k s (Sha.out (s.take i)) (i : Int)) (strOfNums (Sha.out s)) := by
  induction d with
  | zero =>
    intro i hi
    refine Ev.step (f := fun _ => some _) (fun k => ?_) (Ev.now _)
    simp only [sawyerref01_Sum.l3]
    rw [if_neg (by omega), List.take_of_length_le (by omega)]
  | succ d ih =>
    intro i hi
    refine Ev.step (fun k => ?_) (ih (i + 1) (by omega))
    simp only [sawyerref01_Sum.l3]
    rw [if_pos (by omega), if_pos (by omega), if_pos (by omega)]
    simp only [Option.bind_some, rd_nat]
    rw [if_pos (by rw [Sha.out_length]; simp; omega), show wrap64 ((i : Int) + 1) = ((i + 1 : Nat) : Int) by rw [w64 _ (by omega) (by omega)]; omega]
    congr 1
    have ho : Sha.out (s.take i ++ [s[i]'(by omega)]) = Sha.out (s.take i) ++ Sha.bytes4 (s[i]'(by omega)) := by unfold Sha.out; rw [List.flatMap_append]; simp
    rw [List.take_succ_eq_append_getElem (show i < s.length by omega), ho, List.getD_eq_getElem?_getD, List.getElem?_eq_getElem (by omega)]
    rfl
theorem blocks_step' (p s : List Int) (h : 64 ≤ p.length) : Sha.blocks (p.length / 64) p s = Sha.blocks ((p.drop 64).length / 64) (p.drop 64) (Sha.take s (p.take 64)) := by
  rw [List.length_drop, show p.length / 64 = (p.length - 64) / 64 + 1 by omega]
  rfl
theorem sum_l2 (p : List Int) (hm : p.length % 64 = 0) (hl : p.length ≤ 140737488355328) (hb : ∀ x ∈ p, 0 ≤ x ∧ x < 256) (d : Nat) : ∀ (i : Nat) (s : List Int), 64 * (i + d) = p.length → s.length = 8 →
    Ev (fun k => sawyerref01_Sum.l2 k p s ((64 * i : Nat) : Int)) (strOfNums (Sha.out (Sha.blocks ((p.drop (64 * i)).length / 64) (p.drop (64 * i)) s))) := by
  induction d with
  | zero =>
    intro i s hi hs
    have hd : p.drop (64 * i) = [] := List.drop_eq_nil_of_le (by omega)
    rw [hd]
    refine Ev.step (fun k => ?_) (sum_l3 s hs 8 0 (by omega))
    simp only [sawyerref01_Sum.l2]
    rw [if_neg (by omega)]
    rfl
  | succ d ih =>
    intro i s hi hs
    have hlen : 64 ≤ (p.drop (64 * i)).length := by rw [List.length_drop]; omega
    have hT := take_is s ((p.drop (64 * i)).take 64) hs (by rw [List.length_take]; omega) (fun x hx => hb x (List.mem_of_mem_drop (List.mem_of_mem_take hx)))
    have h2 := ih (i + 1) (Sha.take s ((p.drop (64 * i)).take 64)) (by omega) (Sha.take_length _ _ hs)
    rw [blocks_step' _ _ hlen]
    have e1 : (p.drop (64 * i)).drop 64 = p.drop (64 * (i + 1)) := by rw [List.drop_drop]; rfl
    rw [e1]
    refine Ev.step (fun k => ?_) (Ev.bind (f := fun n a => sawyerref01_Sum.l2 n p a ((64 * (i + 1) : Nat) : Int)) hT h2)
    simp only [sawyerref01_Sum.l2]
    rw [if_pos (by omega), if_pos (by omega), show wrap64 (((64 * i : Nat) : Int) + 64) = ((64 * (i + 1) : Nat) : Int) by rw [w64 _ (by omega) (by omega)]; omega]
    rw [if_pos (by omega), if_pos (by omega)]
    have e2 : (p.take ((64 * (i + 1) : Nat) : Int).toNat).drop ((64 * i : Nat) : Int).toNat = (p.drop (64 * i)).take 64 := by
      rw [Int.toNat_natCast, Int.toNat_natCast, List.drop_take, show 64 * (i + 1) - 64 * i = 64 by omega]
    rw [e2]
theorem len8_snoc (n i : Nat) (h : i < 8) : (Sha.len8 n).take (i + 1) = (Sha.len8 n).take i ++ [(Sha.len8 n).getD i 0] := by
  rw [List.take_succ_eq_append_getElem (show i < (Sha.len8 n).length from h), List.getD_eq_getElem?_getD, List.getElem?_eq_getElem (show i < (Sha.len8 n).length from h)]
  rfl
theorem len8_at (n i : Nat) (h : i < 8) (hn : n ≤ 140737488355000) : shr .u64 (8 * (n : Int)) (8 * (7 - (i : Int))) % 256 = (Sha.len8 n).getD i 0 := by
  have hcs : i = 0 ∨ i = 1 ∨ i = 2 ∨ i = 3 ∨ i = 4 ∨ i = 5 ∨ i = 6 ∨ i = 7 := by omega
  rcases hcs with rfl | rfl | rfl | rfl | rfl | rfl | rfl | rfl <;> simp [shr, Sha.len8, IntKind.bits]
theorem sum_l1 (l p : List Int) (hl : l.length ≤ 140737488355000) (hp : p.length ≤ l.length + 64) (hpad : p ++ Sha.len8 l.length = Sha.pad l) (hb : ∀ x ∈ Sha.pad l, 0 ≤ x ∧ x < 256) (d : Nat) : ∀ (i : Nat), i + d = 8 →
    Ev (fun k => sawyerref01_Sum.l1 k (p ++ (Sha.len8 l.length).take i) (8 * (l.length : Int)) (7 - (i : Int))) (Sha.sum l) := by
  induction d with
  | zero =>
    intro i hi
    obtain rfl : i = 8 := by omega
    have hpl : (Sha.pad l).length = p.length + 8 := by rw [← hpad, List.length_append]; rfl
    have h2 := sum_l2 (Sha.pad l) (Sha.pad_length l) (by omega) hb ((Sha.pad l).length / 64) 0 Sha.H0 (by have := Sha.pad_length l; omega) rfl
    refine Ev.step (fun k => ?_) h2
    simp only [sawyerref01_Sum.l1]
    rw [if_neg (by omega), show p ++ (Sha.len8 l.length).take 8 = Sha.pad l from hpad]
    rfl
  | succ d ih =>
    intro i hi
    refine Ev.step (fun k => ?_) (ih (i + 1) (by omega))
    simp only [sawyerref01_Sum.l1]
    rw [if_pos (by omega), show wrap64 (8 * (7 - (i : Int))) = 8 * (7 - (i : Int)) by rw [w64 _ (by omega) (by omega)], if_pos (by omega), if_pos (by rw [List.length_append, List.length_take, show (Sha.len8 l.length).length = 8 from rfl]; omega), show wrap64 (7 - (i : Int) - 1) = 7 - ((i + 1 : Nat) : Int) by rw [w64 _ (by omega) (by omega)]; omega]
    rw [len8_at _ _ (by omega) hl, len8_snoc _ _ (by omega), List.append_assoc]
theorem pad_bytes (l : List Int) (hb : ∀ x ∈ l, 0 ≤ x ∧ x < 256) : ∀ x ∈ Sha.pad l, 0 ≤ x ∧ x < 256 := by
  intro x hx
  simp only [Sha.pad, List.mem_append, List.mem_cons, List.mem_replicate] at hx
  rcases hx with (hx | rfl | ⟨_, rfl⟩) | hx
  · exact hb x hx
  · omega
  · omega
  · simp only [Sha.len8, List.mem_cons, List.not_mem_nil, or_false] at hx
    omega
theorem sum_l0 (l : List Int) (hl : l.length ≤ 140737488355000) (hb : ∀ x ∈ l, 0 ≤ x ∧ x < 256) (d : Nat) : ∀ (j : Nat), j + d = (119 - l.length % 64) % 64 →
    Ev (fun k => sawyerref01_Sum.l0 k l (l ++ 128 :: List.replicate j 0)) (Sha.sum l) := by
  induction d with
  | zero =>
    intro j hj
    have hlen : (l ++ 128 :: List.replicate j (0 : Int)).length = l.length + 1 + j := by simp; omega
    have h2 := sum_l1 l (l ++ 128 :: List.replicate j 0) hl (by omega) (by rw [show j = (119 - l.length % 64) % 64 by omega]; rfl) (pad_bytes l hb) 8 0 (by omega)
    refine Ev.step (fun k => ?_) h2
    simp only [sawyerref01_Sum.l0]
    rw [if_pos (by omega)]
    have e : IntKind.u64.wrap (IntKind.u64.wrap (l.length : Int) * 8) = 8 * (l.length : Int) := by rw [IntKind.wrap_u64, IntKind.wrap_u64]; omega
    rw [e]
    simp
  | succ d ih =>
    intro j hj
    have hlen : (l ++ 128 :: List.replicate j (0 : Int)).length = l.length + 1 + j := by simp; omega
    refine Ev.step (fun k => ?_) (ih (j + 1) (by omega))
    simp only [sawyerref01_Sum.l0]
    rw [if_neg (by omega), if_pos (by omega)]
    congr 1
    rw [List.replicate_succ']
    simp
theorem ok_iff (l : List Int) : Sha.ok l = true ↔ (∀ x ∈ l, 0 ≤ x ∧ x < 256) ∧ l.length ≤ 140737488355000 := by simp [Sha.ok]
/-- THE DOCUMENT's HASH IS Sha.sum. -/
theorem ref_sum (l : List Int) (h : Sha.ok l = true) : Ev (fun k => sawyerref01_Sum.f k l) (Sha.sum l) := by
  obtain ⟨hb, hl⟩ := (ok_iff l).1 h
  unfold sawyerref01_Sum.f
  refine Ev.congr (fun k => ?_) (sum_l0 l hl hb ((119 - l.length % 64) % 64) 0 (by omega))
  rw [if_pos (by simp; omega)]
  simp only [Option.bind_some, List.nil_append]
  rw [if_pos (by omega)]
  rfl
end Go.Proofs.Ytkbbdbnjplcjdaa.F
end
section
-- WRITTEN BY A PROGRAM OF THIS PLACE (wip/tools/pp.sh: the print, turned for functions proved by hand). Lean checks it.
namespace Go.Proofs.Ytkbbdbnjplcjdaa.F
open Go.RowKit Go.Proofs.YtkbbdbnjplcjdaaW.PrintWords Go.Proofs.YtkbbdbnjplcjdaaW.PrintLast Go.Proofs.YtkbbdbnjplcjdaaW.PrintMore
attribute [local go_sem] max2_int min2_int max_two min_two max_three min_three max_four min_four   -- for this text's walks alone
set_option linter.unusedVariables false
set_option linter.unusedSimpArgs false
/-! ### sawyerref15_Leaf: function 15 -/
def sawyerref15_Leaf.f (k : Nat) (l0 : List Int) : Option (ByteArray) := (some (([0] : List Int) : List Int)).bind fun y372 => (if y372.length + l0.length < 140737488355328 then ((sawyerref01_Sum.f k (y372 ++ l0)).bind fun t378 => (some t378)) else (none))
set_option maxHeartbeats 8000000 in
set_option maxRecDepth 100000 in
theorem sawyerref15_Leaf.calls (k : Nat) (A0 : Option Addr) (c0 : Nat) (l0 : List Int) (r : ByteArray) (w : World) (hr0 : Kd.C (Kd.int .u8) w A0 l0.length l0) (hc0 : l0.length ≤ c0) (h : sawyerref15_Leaf.f k l0 = some r) :
    Calls Try.prog 15 #[.slice A0 l0.length c0] w fun e w' => e = .returned (.string r) ∧ Below w.heap.size w w' := by
  (have HR0 := Aside0.mk hr0); (have HC0 := Aside0.mk hc0); (clear hr0 hc0); (have HB := Aside0.mk (Below.refl w.heap.size w)); (have H : ((some (([0] : List Int) : List Int)).bind fun y372 => (if y372.length + l0.length < 140737488355328 then ((sawyerref01_Sum.f k (y372 ++ l0)).bind fun t378 => (some t378)) else (none))) = some r := h); (clear h); (obtain ⟨y372, hy372⟩ : ∃ y_ : List Int, y_ = (([0] : List Int)) := ⟨_, rfl⟩); (replace H : (if y372.length + l0.length < 140737488355328 then ((sawyerref01_Sum.f k (y372 ++ l0)).bind fun t378 => (some t378)) else (none)) = some r := by first | (rw [hy372]; with_reducible exact H) | (have H2_ := (Option.bind_some _ _).symm.trans H; rw [hy372]; with_reducible exact H2_) | (have H2_ := (Option.bind_some _ _).symm.trans H; with_reducible exact H2_) | with_reducible exact H | (rw [hy372]; exact H) | exact H); (have Ny372 := Aside0.mk hy372); (clear hy372); (by_cases c2 : y372.length + l0.length < 140737488355328); (focus ((rw [if_pos c2] at H); (have LMc2 := Aside0.mk c2); (clear c2); (obtain ⟨y375, hy375⟩ : ∃ y_ : List Int, y_ = (y372 ++ l0) := ⟨_, rfl⟩); (replace H : ((sawyerref01_Sum.f k y375).bind fun t378 => (some t378)) = some r := by first | (rw [hy375]; with_reducible exact H) | (have H2_ := (Option.bind_some _ _).symm.trans H; rw [hy375]; with_reducible exact H2_) | (have H2_ := (Option.bind_some _ _).symm.trans H; with_reducible exact H2_) | with_reducible exact H | (rw [hy375]; exact H) | exact H); (have Ny375 := Aside0.mk hy375); (clear hy375); (replace H := Option.bind_eq_some_iff.mp H); (obtain ⟨t378, A30, H⟩ := H); (replace H : (some t378) = some r := H); (have A3 := Aside0.mk A30); (clear A30); (obtain rfl := Option.some.inj H); (go_enter Try.func15, Try.ntmps15); (go_wp2_with (first | ((with_reducible refine gate_dst (N := 3) rfl ?_); refine Kd.R_lit (Kd.int .u8) _ 5 ?hg (N := 3) ?hd (xs := ([0] : List Int)) (inner := [.int .u8 0]) (ok := fun _ => True) (okp := fun _ => True) ?hr ?hp (fun _ hk => hk) trivial (Below.refl _ _) (Nat.le_refl _) (by simp) ?_; (case hd => rfl); (case hg => rfl); (case hr => first | (go_simp; done) | (go_simp; rfl) | (go_simp; simp [IntKind.wrap_u32]; done)); (case hp => exact (Reps.one (show Kd.M (Kd.int .u8) _ _ _ 0 [.int .u8 0] from rfl) (Reps.none _ _))); intro v373 w4 ho5 hb hg_ hnew_; clear hg_ hnew_; (first | rw [← Ny372.out] at ho5 | (simp only [Int.reduceToNat] at ho5; rw [← Ny372.out] at ho5)); have n0_ := Aside0.mk (Kd.R_lower ho5 (below_size (by repeat (first | (with_reducible first | exact HB.out | apply below_alloc | apply pw_below_drewN | apply below_drew1) | exact HB.out)))); have n1_ := Aside0.mk (below_step (by repeat (first | (with_reducible first | exact HB.out | apply below_alloc | apply pw_below_drewN | apply below_drew1) | exact HB.out)) hb); clear HB; have HO374 := n0_; have HB := n1_; clear n0_ n1_; clear hb ho5) | ((with_reducible refine gate_builtin (b := .append) (xs := #[.tmp 3, .tmp 4]) rfl ?_); at_builtin; refine Kd.R_append_rows (Kd.int .u8) (w0 := w) w.heap.size rfl (.tmp 3) (.tmp 4) 23 5 (.int .u8 0) 1 rfl Try.underlying23 info5 rfl (by decide) (by omega) v373 y372 l0 _ _ _ (fun _ => True) (fun _ => False) rfl rfl ?aO ?aR (fun _ _ h => h) (fun _ h => h.elim) ?aF ?aB ?aS ?aL ?_; (case aR => repeat (first | exact (Kd.C_below HR0.out HB.out) | (with_reducible refine Kd.C_alloc ?_ _) | (with_reducible refine Kd.C_drewN ?_ _) | (with_reducible refine Kd.C_drew ?_))); (case aB => exact (by repeat (first | (with_reducible first | exact HB.out | apply below_alloc | apply pw_below_drewN | apply below_drew1) | exact HB.out))); (case aF => exact (fun _ _ => trivial)); (case aO => exact (by (with_reducible repeat (first | apply Kd.R_alloc | apply Kd.R_drewN | apply Kd.R_drew)); exact HO374.out)); (case aS => exact (below_size (by repeat (first | (with_reducible first | exact HB.out | apply below_alloc | apply pw_below_drewN | apply below_drew1) | exact HB.out)))); (case aL => have := LMc2.out; omega); intro v376 w6 ho hb hg hat; rw [← Ny375.out] at ho; have n0_ := Aside0.mk (hb); have n1_ := Aside0.mk (ho); clear HB; clear HO374; have HB := n0_; have HO377 := n1_; clear n0_ n1_; clear ho hb hg hat; obtain ⟨Ao7, co7, eo7⟩ := Kd.R_slice HO377.out; subst eo7) | ((with_reducible refine gate_callee (f := 33) rfl ?_); refine goesL_ (some 6) rfl rfl Try.func33 (by kernel_rfl) rfl #[.slice Ao7 y375.length co7] rfl (by (try simp only [List.map_toArray, List.map_cons, List.map_nil]); first | done | rfl | (simp only [List.length_drop, List.length_take]; rfl)) ?_; (with_reducible refine (sawyerref01_Sum.calls k _ _ y375 t378 _ ?side1 ?side2 A3.out).mono ?_); (case side1 => repeat (first | exact (Kd.R_reads' HO377.out).2.2 | (with_reducible refine Kd.C_alloc ?_ _) | (with_reducible refine Kd.C_drewN ?_ _) | (with_reducible refine Kd.C_drew ?_))); (case side2 => exact (Kd.R_reads' HO377.out).2.1); rintro e w8 ⟨rfl, hb⟩; refine ⟨_, rfl, ?_⟩; have n0_ := Aside0.mk (Kd.R_below (by (with_reducible repeat (first | apply Kd.R_alloc | apply Kd.R_drewN | apply Kd.R_drew)); exact HO377.out) hb); have n1_ := Aside0.mk (below_step (by repeat (first | (with_reducible first | exact HB.out | apply below_alloc | apply pw_below_drewN | apply below_drew1) | exact HB.out)) hb); clear HO377; clear HB; have HO377 := n0_; have HB := n1_; clear n0_ n1_; (try clear hb); (try clear hb2); (try clear hk); (try clear hi)))); (go_ret); (exact ⟨by first | rfl | (simp [errW_none, errW_some] <;> rfl) | (simp [*, errW_none, errW_some] <;> rfl), by repeat (first | (with_reducible first | exact HB.out | apply below_alloc | apply pw_below_drewN | apply below_drew1) | exact HB.out)⟩))); (focus ((rw [if_neg c2] at H); (exact absurd H (by simp))))
end Go.Proofs.Ytkbbdbnjplcjdaa.F
end
section
-- WRITTEN BY A PROGRAM OF THIS PLACE (wip/tools/pp.sh: the print, turned for functions proved by hand). Lean checks it.
namespace Go.Proofs.Ytkbbdbnjplcjdaa.F
open Go.RowKit Go.Proofs.YtkbbdbnjplcjdaaW.PrintWords Go.Proofs.YtkbbdbnjplcjdaaW.PrintLast Go.Proofs.YtkbbdbnjplcjdaaW.PrintMore
attribute [local go_sem] max2_int min2_int max_two min_two max_three min_three max_four min_four   -- for this text's walks alone
set_option linter.unusedVariables false
set_option linter.unusedSimpArgs false
/-! ### sawyerlaw15_leaves: function 29 -/
def sawyerlaw15_leaves.l0 : Nat → List (List Int) → List ByteArray → Int → Option (List ByteArray)
  | 0, _, _, _ => none
  | k + 1, x0, x3, x4 => if x4 < (x0.length : Int) then (if x4 < 70 then (if 0 ≤ x4 then ((sawyerref15_Leaf.f k (rd_L3 x0 x4)).bind fun t510 => (if x3.length < 8796093022208 then (sawyerlaw15_leaves.l0 k x0 (x3 ++ [t510]) (wrap64 (x4 + 1))) else (none))) else (none)) else (some x3)) else (some x3)
def sawyerlaw15_leaves.f (k : Nat) (l0 : List (List Int)) : Option (List ByteArray) := sawyerlaw15_leaves.l0 k l0 ([] : List ByteArray) 0
set_option maxHeartbeats 8000000 in
set_option maxRecDepth 100000 in
theorem sawyerlaw15_leaves.calls (k : Nat) (A0 : Option Addr) (c0 : Nat) (l0 : List (List Int)) (r : List ByteArray) (w : World) (hr0 : Kd.C (Kd.slice 5 (Kd.int .u8)) w A0 l0.length l0) (hc0 : l0.length ≤ c0) (h : sawyerlaw15_leaves.f k l0 = some r) :
    Calls Try.prog 29 #[.slice A0 l0.length c0] w fun e w' => ∃ v0_ : Value, e = .returned (v0_) ∧ Kd.R Kd.string 9 w' w.heap.size (fun _ => True) v0_ r ∧ Below w.heap.size w w' := by
  (have HR0 := Aside0.mk hr0); (have HC0 := Aside0.mk hc0); (clear hr0 hc0); (have HB := Aside0.mk (Below.refl w.heap.size w)); (have H : (sawyerlaw15_leaves.l0 k l0 ([] : List ByteArray) 0) = some r := h); (clear h); (have H' := Aside0.mk H); (clear H); (go_enter Try.func29, Try.ntmps29); (go_wp2); (go_loopg [3, 4] k (fun kq v3 v4 w' => ∃ (x3_1 : List ByteArray) (x4_1 : Int), v4 = .int .i64 x4_1 ∧ Aside0 (sawyerlaw15_leaves.l0 kq l0 x3_1 x4_1 = some r) ∧ Aside0 (kq ≤ k) ∧ Aside0 (Kd.R Kd.string 9 w' w.heap.size (fun _ => True) v3 x3_1) ∧ Aside0 (Below w.heap.size w w')))
  case atStart => exact ⟨(([] : List ByteArray)), (0), (by first | rfl | (simp; done) | (simp [*]; done)), H', ⟨Nat.le_refl _⟩, ⟨by first | exact Kd.R_nil _ _ _ _ _ | exact Kd.N_nil _ _ _ _ _ | exact Kd.V_nil _ _ _ _ _ | exact Kd.Q_nil _ _ _ _ _ | exact Kd.S_nil _ _ _ _ _⟩, ⟨by repeat (first | (with_reducible first | exact HB.out | apply below_alloc | apply pw_below_drewN | apply below_drew1) | exact HB.out)⟩⟩
  case round =>
    (clear H'); (obtain ⟨x3_1, x4_1, rfl, HA, HK1, HO_3, HB⟩ := hrel)
    cases gk with
    | zero => exact absurd HA.out (by simp [sawyerlaw15_leaves.l0])
    | succ k1 =>
      (have H := HA.out); (clear HA); (simp only [sawyerlaw15_leaves.l0] at H); (by_cases c2 : x4_1 < (l0.length : Int))
      · (rw [if_pos c2] at H); (have c2b0 : decide (x4_1 < (l0.length : Int)) = true := decide_eq_true c2); (clear c2); (by_cases c3 : x4_1 < 70)
        · (rw [if_pos c3] at H); (have c3b0 : decide (x4_1 < 70) = true := decide_eq_true c3); (clear c3); (by_cases c4 : 0 ≤ x4_1)
          · (rw [if_pos c4] at H); (have c4b0 : decide (0 ≤ x4_1) = true := decide_eq_true c4); (clear c4); (replace H := Option.bind_eq_some_iff.mp H); (obtain ⟨t510, A50, H⟩ := H); (replace H : (if x3_1.length < 8796093022208 then (sawyerlaw15_leaves.l0 k1 l0 (x3_1 ++ [t510]) (wrap64 (x4_1 + 1))) else (none)) = some r := H); (have A5 := Aside0.mk A50); (clear A50); (by_cases c6 : x3_1.length < 8796093022208)
            · (rw [if_pos c6] at H); (have LMc6 := Aside0.mk c6); (clear c6); (obtain ⟨y511, hy511⟩ : ∃ y_ : List ByteArray, y_ = (x3_1 ++ [t510]) := ⟨_, rfl⟩); (replace H : (sawyerlaw15_leaves.l0 k1 l0 y511 (wrap64 (x4_1 + 1))) = some r := by first | (rw [hy511]; with_reducible exact H) | (have H2_ := (Option.bind_some _ _).symm.trans H; rw [hy511]; with_reducible exact H2_) | (have H2_ := (Option.bind_some _ _).symm.trans H; with_reducible exact H2_) | with_reducible exact H | (rw [hy511]; exact H) | exact H); (have Ny511 := Aside0.mk hy511); (clear hy511); (have H' := Aside0.mk H); (clear H); (have p509 : 0 ≤ (x4_1 : Int) := of_decide_eq_true (by first | (with_reducible assumption) | assumption)); (have q509 : x4_1 < (l0.length : Int) := of_decide_eq_true (by first | (with_reducible assumption) | assumption)); (obtain ⟨ad509, A509_0, c509_0, e509, hx509_0, hl509_0, hi509_0⟩ := at_L3 HR0.out x4_1 p509 q509)
              cases e509
              (replace hx509_0 := (HB.out.cell (World.block_lt_of_cell? w _ hx509_0)).trans hx509_0); (have HR509_0 := Aside0.mk hi509_0); (have HC509_0 := Aside0.mk hl509_0); (clear hi509_0 hl509_0); (replace p509 := eq_true p509); (replace q509 := eq_true q509); (go_wp2_with (first | ((with_reducible refine gate_callee (f := 15) rfl ?_); refine goesL_ (some 20) rfl rfl Try.func15 (by kernel_rfl) rfl #[.slice A509_0 (rd_L3 l0 x4_1).length c509_0] rfl (by (try simp only [List.map_toArray, List.map_cons, List.map_nil]); first | done | rfl | (simp only [List.length_drop, List.length_take]; rfl)) ?_; (with_reducible refine (sawyerref15_Leaf.calls k1 _ _ (rd_L3 l0 x4_1) t510 _ ?side1 ?side2 A5.out).mono ?_); (case side1 => repeat (first | exact (Kd.C_below HR509_0.out HB.out) | (with_reducible refine Kd.C_alloc ?_ _) | (with_reducible refine Kd.C_drewN ?_ _) | (with_reducible refine Kd.C_drew ?_))); (case side2 => exact HC509_0.out); rintro e w7 ⟨rfl, hb⟩; refine ⟨_, rfl, ?_⟩; have n0_ := Aside0.mk (Kd.R_below (by (with_reducible repeat (first | apply Kd.R_alloc | apply Kd.R_drewN | apply Kd.R_drew)); exact HO_3.out) hb); have n1_ := Aside0.mk (below_step (by repeat (first | (with_reducible first | exact HB.out | apply below_alloc | apply pw_below_drewN | apply below_drew1) | exact HB.out)) hb); clear HO_3; clear HB; have HO_3 := n0_; have HB := n1_; clear n0_ n1_; (try clear hb); (try clear hb2); (try clear hk); (try clear hi)) | ((with_reducible refine gate_builtin (b := .append) (xs := #[.tmp 15, .tmp 21]) rfl ?_); at_builtin; refine Kd.R_append Kd.string (w0 := w) w.heap.size rfl (.tmp 15) (.tmp 21) 22 9 (.string ⟨#[]⟩) 16 rfl Try.underlying22 info9 rfl (by decide) (by omega) u3 x3_1 t510 [.string t510] (fun _ => True) (fun _ => False) rfl rfl ?aP (fun _ hk => hk.elim) ?aF ?aO ?aB ?aS ?aL ?_; (case aP => exact rfl); (case aB => exact (by repeat (first | (with_reducible first | exact HB.out | apply below_alloc | apply pw_below_drewN | apply below_drew1) | exact HB.out))); (case aF => exact (fun _ _ => trivial)); (case aO => exact (by (with_reducible repeat (first | apply Kd.R_alloc | apply Kd.R_drewN | apply Kd.R_drew)); exact HO_3.out)); (case aS => exact (below_size (by repeat (first | (with_reducible first | exact HB.out | apply below_alloc | apply pw_below_drewN | apply below_drew1) | exact HB.out)))); (case aL => have := LMc6.out; omega); intro v512 w8 ho hb hg hat; rw [← Ny511.out] at ho; have n0_ := Aside0.mk (hb); have n1_ := Aside0.mk (ho); clear HB; clear HO_3; have HB := n0_; have HO513 := n1_; clear n0_ n1_; clear ho hb hg hat))); (go_roundg k1)
              case measure => have := HK1.out; omega
              case rel => exact ⟨(y511), (wrap64 (x4_1 + 1)), (by first | rfl | (simp; done) | (simp [*]; done)), H', ⟨by have := HK1.out; omega⟩, ⟨by (with_reducible repeat (first | apply Kd.R_alloc | apply Kd.R_drewN | apply Kd.R_drew)); exact HO513.out⟩, ⟨by repeat (first | (with_reducible first | exact HB.out | apply below_alloc | apply pw_below_drewN | apply below_drew1) | exact HB.out)⟩⟩
            focus ((rw [if_neg c6] at H); (exact absurd H (by simp)))
          focus ((rw [if_neg c4] at H); (exact absurd H (by simp)))
        focus ((rw [if_neg c3] at H); (have c3b0 : decide (x4_1 < 70) = false := decide_eq_false c3); (clear c3); (obtain rfl := Option.some.inj H); (go_wp2); (go_ret); (exact ⟨_, by first | rfl | (simp [errW_none, errW_some] <;> rfl) | (simp [*, errW_none, errW_some] <;> rfl), by (with_reducible repeat (first | apply Kd.R_alloc | apply Kd.R_drewN | apply Kd.R_drew)); exact HO_3.out, by repeat (first | (with_reducible first | exact HB.out | apply below_alloc | apply pw_below_drewN | apply below_drew1) | exact HB.out)⟩))
      focus ((rw [if_neg c2] at H); (have c2b0 : decide (x4_1 < (l0.length : Int)) = false := decide_eq_false c2); (clear c2); (obtain rfl := Option.some.inj H); (go_wp2); (go_ret); (exact ⟨_, by first | rfl | (simp [errW_none, errW_some] <;> rfl) | (simp [*, errW_none, errW_some] <;> rfl), by (with_reducible repeat (first | apply Kd.R_alloc | apply Kd.R_drewN | apply Kd.R_drew)); exact HO_3.out, by repeat (first | (with_reducible first | exact HB.out | apply below_alloc | apply pw_below_drewN | apply below_drew1) | exact HB.out)⟩))
end Go.Proofs.Ytkbbdbnjplcjdaa.F
end
