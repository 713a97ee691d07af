-- JOINED BY A PROGRAM OF THIS PLACE (wip/tools/pack.py) out of: Ref15Node F30
import Derived.Lib.AtoiErrMem
import Derived.Test.YtopacnaiedlaaaaDoorL7
import Derived.Test.YtopacnaiedlaaaaDoorL8
import Derived.Test.YtopacnaiedlaaaaDoorL13
import Derived.Test.YtopacnaiedlaaaaDoorL16
import Derived.Test.YtopacnaiedlaaaaDoorL23
section
/-
  sawyerref15.Node: the hash of a node, as the plain text Hs has it.
-/
namespace Go.Proofs.YtopacnaiedlaaaaDoor
open Go.RowKit Go.Proofs.YtopacnaiedlaaaaDoorW.PrintWords Go.Proofs.YtopacnaiedlaaaaDoorW.PrintLast Go.Proofs.YtopacnaiedlaaaaDoorW.PrintMore
set_option linter.unusedVariables false
set_option linter.unusedSimpArgs false
/-- a node's two sides may be hashed: they are not too long -/
def nodeOk (a b : ByteArray) : Bool := decide (a.size + b.size ≤ 140737488354000)
def sawyerref15_Node.f (a0 a1 : ByteArray) : Option ByteArray := if nodeOk a0 a1 = true then some (Hs.node a0 a1) else none
theorem one_append (a b : ByteArray) : (⟨#[1]⟩ : ByteArray) ++ a ++ b = (⟨#[1]⟩ : ByteArray) ++ (a ++ b) := ByteArray.append_assoc
theorem joined_bytes (a b : ByteArray) : bytesOf ((⟨#[1]⟩ : ByteArray) ++ a ++ b) = Hs.joined a b := by
  rw [one_append]
  unfold Hs.joined bytesOf
  simp [ByteArray.data_append]
set_option maxHeartbeats 1000000 in
set_option maxRecDepth 100000 in
theorem sawyerref15_Node.calls (a0 a1 : ByteArray) (r : ByteArray) (w : World) (h : sawyerref15_Node.f a0 a1 = some r) :
    Calls Tryd.prog 43 #[.string a0, .string a1] w fun e w' => e = .returned (.string r) ∧ Below w.heap.size w w' := by
  unfold sawyerref15_Node.f at h
  split at h
  case isFalse => cases h
  rename_i hok
  obtain rfl := Option.some.inj h
  clear h
  have hsz : a0.size + a1.size ≤ 140737488354000 := of_decide_eq_true hok
  have HSZ := Lib.hid hsz
  have hn1 : ¬ 9223372036854775807 < 1 + a0.size := by omega
  have hn2 : ¬ 9223372036854775807 < 1 + a0.size + a1.size := by omega
  clear hok hsz
  have hcv := fun w => Lib.run_convert_string_bytes (P := Tryd.prog) w 9 76 5 ((⟨#[1]⟩ : ByteArray) ++ a0 ++ a1) Tryd.underlying9 Tryd.underlying76 Tryd.underlying5
  go_enter Tryd.func43, Tryd.ntmps43
  go_wp2_with fail
  have hmk := marked_conv w ((⟨#[1]⟩ : ByteArray) ++ a0 ++ a1) (by rw [ByteArray.size_append, ByteArray.size_append]; have := HSZ.out; show 1 + a0.size + a1.size ≤ maxLen; unfold maxLen; omega)
  have hbw := Lib.bytesWorld_below w 5 ((⟨#[1]⟩ : ByteArray) ++ a0 ++ a1)
  have hjb := joined_bytes a0 a1
  have hjl : ((⟨#[1]⟩ : ByteArray) ++ a0 ++ a1).size = (Hs.joined a0 a1).length := by rw [← hjb, bytesOf_length]
  rw [hjb] at hmk
  clear hcv
  have hjl2 : 1 + a0.size + a1.size = (Hs.joined a0 a1).length := by rw [← hjl, ByteArray.size_append, ByteArray.size_append]; rfl
  rw [hjl] at hmk
  rw [hjl2]
  generalize grownCap w (Hs.joined a0 a1).length 0 5 = ck at *
  generalize Lib.bytesWorld w 5 ((⟨#[1]⟩ : ByteArray) ++ a0 ++ a1) = W at *
  obtain ⟨A, c, e, hle, hrd⟩ := any_reads (.inr hmk)
  cases e
  have hok : Sha.ok (Hs.joined a0 a1) = true := by
    rw [F.ok_iff]
    refine ⟨?_, ?_⟩
    · rw [← hjb]; exact bytesOf_range _
    · rw [← hjl, ByteArray.size_append, ByteArray.size_append]
      have := HSZ.out
      show 1 + a0.size + a1.size ≤ _
      omega
  obtain ⟨k, hk⟩ := (F.ref_sum _ hok).rounds
  have HB := Lib.hid hbw
  clear hbw hjb hjl hok hmk
  refine (F.sawyerref01_Sum.calls k _ _ (Hs.joined a0 a1) _ W hrd hle hk).mono ?_
  rintro e w3 ⟨rfl, hb3⟩
  have HB3 := Lib.hid (below_then HB.out HB.out.size hb3)
  clear hb3 hrd hk
  go_wp2
  go_ret
  exact ⟨rfl, HB3.out⟩
end Go.Proofs.YtopacnaiedlaaaaDoor
end
section
-- WRITTEN BY A PROGRAM OF THIS PLACE (wip/tools/pp.sh: the print, turned for functions proved by hand). Lean checks it.
namespace Go.Proofs.YtopacnaiedlaaaaDoor.F
open Go.RowKit Go.Proofs.YtopacnaiedlaaaaDoorW.PrintWords Go.Proofs.YtopacnaiedlaaaaDoorW.PrintLast Go.Proofs.YtopacnaiedlaaaaDoorW.PrintMore
attribute [local go_sem] max2_int min2_int max_two min_two max_three min_three max_four min_four   -- for this text's walks alone
set_option linter.unusedVariables false
set_option linter.unusedSimpArgs false
/-! ### sawyerref15_Root: function 42 -/
def sawyerref15_Root.f : Nat → List ByteArray → Option (ByteArray)
  | 0, _ => none
  | k + 1, l0 => if (l0.length : Int) = 0 then ((sawyerref01_Sum.f k ([] : List Int)).bind fun t401 => (some t401)) else (if (l0.length : Int) = 1 then (if 0 < (l0.length : Int) then (some (rdOf ByteArray.empty l0 0)) else (none)) else ((sawyerref15_Cut.f k (l0.length : Int)).bind fun t403 => (if 0 ≤ t403 then (if t403 ≤ (l0.length : Int) then ((sawyerref15_Root.f k (l0.take (t403 : Int).toNat)).bind fun t405 => ((sawyerref15_Root.f k (l0.drop (t403 : Int).toNat)).bind fun t407 => ((sawyerref15_Node.f t405 t407).bind fun t408 => (some t408)))) else (none)) else (none))))
def sawyerref15_Root.T6 : Bool × List (List Nat × List Nat) := (true, [([], []), ([], []), ([0, 1], [0, 1]), ([2], [2]), ([], []), ([], []), ([4, 5], [4, 5]), ([6, 3], [6]), ([3, 7, 7], [3, 7]), ([8, 8, 0, 1, 2, 3, 4, 5, 6, 7, 8], [8])])
def sawyerref15_Root.B6 : List Nat := [0, 0, 3, 7, 0, 0, 48, 127, 255, 511]
theorem sawyerref15_Root.tab6 : rtab .any (opsOf Tryd.f42 6) = sawyerref15_Root.T6 := by kernel_rfl
theorem sawyerref15_Root.bits6 : waitsOk sawyerref15_Root.T6.2 sawyerref15_Root.B6 = true := by kernel_rfl
set_option maxHeartbeats 8000000 in
set_option maxRecDepth 100000 in
theorem sawyerref15_Root.calls (k : Nat) : ∀ (A0 : Option Addr) (c0 : Nat) (l0 : List ByteArray) (r : ByteArray) (w : World) (hr0 : Kd.C Kd.string w A0 l0.length l0) (hc0 : l0.length ≤ c0) (h : sawyerref15_Root.f k l0 = some r),
    Calls Tryd.prog 42 #[.slice A0 l0.length c0] w fun e w' => e = .returned (.string r) ∧ Below w.heap.size w w' := by
  induction k using Nat.strongRecOn with
  | _ k ih =>
  intro A0 c0 l0 r w hr0 hc0 h
  cases k with
  | zero => exact absurd h (by simp [sawyerref15_Root.f])
  | succ k =>
  (simp only [sawyerref15_Root.f] at h); (have HR0 := Aside0.mk hr0); (have HC0 := Aside0.mk hc0); (clear hr0 hc0); (have HB := Aside0.mk (Below.refl w.heap.size w)); (have H : (if (l0.length : Int) = 0 then ((sawyerref01_Sum.f k ([] : List Int)).bind fun t401 => (some t401)) else (if (l0.length : Int) = 1 then (if 0 < (l0.length : Int) then (some (rdOf ByteArray.empty l0 0)) else (none)) else ((sawyerref15_Cut.f k (l0.length : Int)).bind fun t403 => (if 0 ≤ t403 then (if t403 ≤ (l0.length : Int) then ((sawyerref15_Root.f k (l0.take (t403 : Int).toNat)).bind fun t405 => ((sawyerref15_Root.f k (l0.drop (t403 : Int).toNat)).bind fun t407 => ((sawyerref15_Node.f t405 t407).bind fun t408 => (some t408)))) else (none)) else (none))))) = some r := h); (clear h); (by_cases c2 : (l0.length : Int) = 0); (focus ((rw [if_pos c2] at H); (have c2b0 : ((l0.length : Int) == 0) = true := beq_iff_eq.mpr c2); (have c2b1 : ((l0.length : Int) != 0) = false := bne_eq_false_iff_eq.mpr c2); (clear c2); (replace H := Option.bind_eq_some_iff.mp H); (obtain ⟨t401, A30, H⟩ := H); (replace H : (some t401) = some r := H); (have A3 := Aside0.mk A30); (clear A30); (obtain rfl := Option.some.inj H); (go_enter Tryd.func42, Tryd.ntmps42); (go_wp2_with (first | ((with_reducible refine gate_callee (f := 62) rfl ?_); refine goesL_ (some 7) rfl rfl Tryd.func62 (by kernel_rfl) rfl #[.slice none 0 0] rfl (by (try simp only [List.map_toArray, List.map_cons, List.map_nil]); first | done | rfl | (simp only [List.length_drop, List.length_take]; rfl)) ?_; (refine (sawyerref01_Sum.calls k _ _ ([] : List Int) t401 _ ?side1 ?side2 A3.out).mono ?_); (case side1 => exact Kd.C_nil _ _); (case side2 => exact Nat.le_refl _); rintro e w4 ⟨rfl, hb⟩; refine ⟨_, rfl, ?_⟩; have n0_ := Aside0.mk (below_step (by repeat (first | (with_reducible first | exact HB.out | apply below_alloc | apply pw_below_drewN | apply below_drew1) | exact HB.out)) hb); clear HB; have HB := n0_; clear n0_; (try clear hb); (try clear hb2); (try clear hk); (try clear hi)))); (go_ret); (exact ⟨by first | rfl | (simp [errW_none, errW_some] <;> rfl) | (simp [*, errW_none, errW_some] <;> rfl), by repeat (first | (with_reducible first | exact HB.out | apply below_alloc | apply pw_below_drewN | apply below_drew1) | exact HB.out)⟩)))
  · (rw [if_neg c2] at H); (have c2b0 : ((l0.length : Int) == 0) = false := beq_eq_false_iff_ne.mpr c2); (have c2b1 : ((l0.length : Int) != 0) = true := bne_iff_ne.mpr c2); (have c2b2 : ¬ (l0 = []) := fun h_ => c2 (by rw [h_]; rfl)); (by_cases c5 : (l0.length : Int) = 1)
    · (rw [if_pos c5] at H); (have c5b0 : ((l0.length : Int) == 1) = true := beq_iff_eq.mpr c5); (have c5b1 : ((l0.length : Int) != 1) = false := bne_eq_false_iff_eq.mpr c5); (clear c5); (by_cases c6 : 0 < (l0.length : Int))
      · (rw [if_pos c6] at H); (have c6b0 : decide (0 < (l0.length : Int)) = true := decide_eq_true c6); (have c6b1 : decide (0 < l0.length) = true := decide_eq_true (by omega)); (clear c6); (obtain rfl := Option.some.inj H); (have p402 : 0 ≤ (0 : Int) := (by omega)); (have q402 : 0 < (l0.length : Int) := of_decide_eq_true (by first | (with_reducible assumption) | assumption)); (obtain ⟨ad402, e402, hx402_0⟩ := Kd.at_string HR0.out 0 p402 q402)
        cases e402
        (have qi402 : (0 < l0.length) = True := eq_true (by omega)); ((try rw [show ((0 : Int)).toNat = 0 from rfl] at hx402_0)); ((try rw [Addr.add_zero'] at hx402_0)); (replace p402 := eq_true p402); (replace q402 := eq_true q402); (go_enter Tryd.func42, Tryd.ntmps42); (go_wp2); (go_ret); (exact ⟨by first | rfl | (simp [errW_none, errW_some] <;> rfl) | (simp [*, errW_none, errW_some] <;> rfl), by repeat (first | (with_reducible first | exact HB.out | apply below_alloc | apply pw_below_drewN | apply below_drew1) | exact HB.out)⟩)
      focus ((rw [if_neg c6] at H); (exact absurd H (by simp)))
    · (rw [if_neg c5] at H); (have c5b0 : ((l0.length : Int) == 1) = false := beq_eq_false_iff_ne.mpr c5); (have c5b1 : ((l0.length : Int) != 1) = true := bne_iff_ne.mpr c5); (replace H := Option.bind_eq_some_iff.mp H); (obtain ⟨t403, A70, H⟩ := H); (replace H : (if 0 ≤ t403 then (if t403 ≤ (l0.length : Int) then ((sawyerref15_Root.f k (l0.take (t403 : Int).toNat)).bind fun t405 => ((sawyerref15_Root.f k (l0.drop (t403 : Int).toNat)).bind fun t407 => ((sawyerref15_Node.f t405 t407).bind fun t408 => (some t408)))) else (none)) else (none)) = some r := H); (have A7 := Aside0.mk A70); (clear A70); (by_cases c8 : 0 ≤ t403)
      · (rw [if_pos c8] at H); (have c8b0 := eq_true c8); (have c8b1 : decide (0 ≤ t403) = true := decide_eq_true c8); (clear c8); (by_cases c9 : t403 ≤ (l0.length : Int))
        · (rw [if_pos c9] at H); (have c9b0 := eq_true c9); (have c9b1 : decide (t403 ≤ (l0.length : Int)) = true := decide_eq_true c9); (clear c9); (replace H := Option.bind_eq_some_iff.mp H); (obtain ⟨t405, A100, H⟩ := H); (replace H : ((sawyerref15_Root.f k (l0.drop (t403 : Int).toNat)).bind fun t407 => ((sawyerref15_Node.f t405 t407).bind fun t408 => (some t408))) = some r := H); (have A10 := Aside0.mk A100); (clear A100); (have c11b0 := eq_true (of_decide_eq_true (by first | (with_reducible assumption) | assumption) : 0 ≤ t403)); (have c12b0 := eq_true (of_decide_eq_true (by first | (with_reducible assumption) | assumption) : t403 ≤ (l0.length : Int))); (replace H := Option.bind_eq_some_iff.mp H); (obtain ⟨t407, A130, H⟩ := H); (replace H : ((sawyerref15_Node.f t405 t407).bind fun t408 => (some t408)) = some r := H); (have A13 := Aside0.mk A130); (clear A130); (replace H := Option.bind_eq_some_iff.mp H); (obtain ⟨t408, A140, H⟩ := H); (replace H : (some t408) = some r := H); (have A14 := Aside0.mk A140); (clear A140); (obtain rfl := Option.some.inj H); (go_enter Tryd.func42, Tryd.ntmps42); (try go_wp2_with (first | ((with_reducible refine gate_callee (f := 55) rfl ?_); refine goesL_ (some 16) rfl rfl Tryd.func55 (by kernel_rfl) rfl #[.int .i64 (l0.length : Int)] rfl (by (try simp only [List.map_toArray, List.map_cons, List.map_nil]); first | done | rfl | (simp only [List.length_drop, List.length_take]; rfl)) ?_; (with_reducible refine (sawyerref15_Cut.calls k (l0.length : Int) t403 _ A7.out).mono ?_); rintro e w15 ⟨rfl, hb⟩; refine ⟨_, rfl, ?_⟩; have n0_ := Aside0.mk (below_step (by repeat (first | (with_reducible first | exact HB.out | apply below_alloc | apply pw_below_drewN | apply below_drew1) | exact HB.out)) hb); clear HB; have HB := n0_; clear n0_; (try clear hb); (try clear hb2); (try clear hk); (try clear hi)))); (have n0_ := Aside0.mk (below_drew1 HB.out)); (clear HB); (have HB := n0_); (clear n0_); (obtain ⟨i017, hi017, _, hsz17, _⟩ := info_parts info9); (obtain ⟨hcut17, hA17, hC17⟩ := print_take_of (P := Tryd.prog) Value.string (⟨#[]⟩ : ByteArray) 47 9 .i64 Tryd.underlying47 hi017 hsz17 A0 c0 l0 t403 (of_decide_eq_true (by first | (with_reducible assumption) | assumption)) (of_decide_eq_true (by first | (with_reducible assumption) | assumption)) HC0.out); (have HR404 := Aside0.mk (Kd.C_of_reads (h1 := fun _ => rfl) (hA17 _ (Kd.reads_of_C HR0.out)))); (have HC404 := Aside0.mk hC17); (clear hA17 hC17 hi017 hsz17); (obtain ⟨i018, hi018, _, hsz18, _⟩ := info_parts info9); (obtain ⟨A18, hcut18, hA18, hC18⟩ := print_drop_of (P := Tryd.prog) Value.string (⟨#[]⟩ : ByteArray) 47 9 .i64 Tryd.underlying47 hi018 hsz18 A0 c0 l0 t403 (of_decide_eq_true (by first | (with_reducible assumption) | assumption)) (of_decide_eq_true (by first | (with_reducible assumption) | assumption)) HC0.out); (have HR406 := Aside0.mk (Kd.C_of_reads (h1 := fun _ => rfl) (hA18 _ (Kd.reads_of_C HR0.out)))); (have HC406 := Aside0.mk hC18); (clear hA18 hC18 hi018 hsz18); (refine start_ (n := 10) (S := fun w' => True) (ds := []) (B01 10 0) (by kernel_rfl) rfl rfl trivial (fun hHeld => ?_); refine with_tabW sawyerref15_Root.tab6 sawyerref15_Root.bits6 (fun HT_ HW_ => ?_)); (generalize w15.drew = w16 at HB HR404 HR406 hHeld ⊢); (refine pure_ (i := 0) (N := some 17) (v := ?_) (a' := ?_) (B01 10 1) rfl rfl (any_of HT_.out (by kernel_rfl)) (fun _ _ _ h => h) (Or.inl ⟨by rfl, ?_⟩) ?_ ?_); (rotate_left); (focus ((intro w'); (go_simp); (with_reducible rfl))); (rotate_left); (focus ((simp only [Act.put, List.setIfInBounds_toArray, List.set_cons_zero, List.set_cons_succ, i64_w, i32_w]); (rfl))); (refine pure_ (i := 1) (N := some 18) (v := ?_) (a' := ?_) (B01 10 3) rfl rfl (any_of HT_.out (by kernel_rfl)) (fun _ _ _ h => h) (Or.inl ⟨by rfl, ?_⟩) ?_ ?_); (rotate_left); (focus ((intro w'); (go_simp); (with_reducible rfl))); (rotate_left); (focus ((simp only [Act.put, List.setIfInBounds_toArray, List.set_cons_zero, List.set_cons_succ, i64_w, i32_w]); (rfl))); (refine pure_ (i := 2) (N := some 19) (v := ?_) (a' := ?_) (B01 10 7) rfl rfl (any_of HT_.out (by kernel_rfl)) (fun _ _ _ h => h) (Or.inl ⟨by rfl, ?_⟩) ?_ ?_); (rotate_left); (focus ((intro w'); (go_simp); (with_reducible rfl))); (rotate_left); (focus ((simp only [Act.put, List.setIfInBounds_toArray, List.set_cons_zero, List.set_cons_succ, i64_w, i32_w]); (rfl))); (refine pure_ (i := 4) (N := some 21) (v := ?_) (a' := ?_) (B01 10 23) rfl rfl (any_of HT_.out (by kernel_rfl)) (fun _ _ _ h => h) (Or.inl ⟨by rfl, ?_⟩) ?_ ?_); (rotate_left); (focus ((intro w'); (go_simp); (with_reducible rfl))); (rotate_left); (focus ((simp only [Act.put, List.setIfInBounds_toArray, List.set_cons_zero, List.set_cons_succ, i64_w, i32_w]); (rfl))); (refine pure_ (i := 5) (N := some 22) (v := ?_) (a' := ?_) (B01 10 55) rfl rfl (any_of HT_.out (by kernel_rfl)) (fun _ _ _ h => h) (Or.inl ⟨by rfl, ?_⟩) ?_ ?_); (rotate_left); (focus ((intro w'); (go_simp); (with_reducible rfl))); (rotate_left); (focus ((simp only [Act.put, List.setIfInBounds_toArray, List.set_cons_zero, List.set_cons_succ, i64_w, i32_w]); (rfl))); (refine pure_ (i := 6) (N := some 23) (v := ?_) (a' := ?_) (B01 10 119) rfl rfl (any_of HT_.out (by kernel_rfl)) (fun _ _ _ h => h) (Or.inl ⟨by rfl, ?_⟩) ?_ ?_); (rotate_left); (focus ((intro w'); (go_simp); (with_reducible rfl))); (rotate_left); (focus ((simp only [Act.put, List.setIfInBounds_toArray, List.set_cons_zero, List.set_cons_succ, i64_w, i32_w]); (rfl)))
          (refine one_ (i := 3) (N := some 20) (B01 10 127) rfl rfl (one_of HT_.out (by kernel_rfl)) (by decide) (fun K hK => ?_)); (refine goes_ Tryd.func42 (by kernel_rfl) rfl #[.slice A0 (l0.take (t403 : Int).toNat).length c0] (by rfl) rfl rfl (by (try simp only [List.map_toArray, List.map_cons, List.map_nil]); first | done | (rw [show (l0.take (t403 : Int).toNat).length = t403.toNat from (by rw [List.length_take]; have h_ : (t403 : Int) ≤ (l0.length : Int) := of_decide_eq_true (by first | (with_reducible assumption) | assumption); omega)] <;> rfl) | rfl | (simp only [List.length_drop, List.length_take]; rfl)) ?_); (with_reducible refine (ih k (by omega) _ _ (l0.take (t403 : Int).toNat) t405 _ ?side1 ?side2 A10.out).mono ?_); ((case side1 => repeat (first | exact (Kd.C_below HR404.out HB.out) | (with_reducible refine Kd.C_alloc ?_ _) | (with_reducible refine Kd.C_drewN ?_ _) | (with_reducible refine Kd.C_drew ?_)))); ((case side2 => exact HC404.out)); (rintro e w19 ⟨rfl, hb⟩); (refine ⟨_, rfl, ?_⟩); (have n0_ := Aside0.mk (below_step (by repeat (first | (with_reducible first | exact HB.out | apply below_alloc | apply pw_below_drewN | apply below_drew1) | exact HB.out)) hb)); (clear HB); (have HB := n0_); (clear n0_); ((try clear hb)); ((try clear hb2)); ((try clear hk)); ((try clear hi)); (refine hK.out _ _ trivial (fun hHeld => ?_)); (clear hK K); (refine norm_ (a' := ?_) ?_ ?_); (rotate_left); (focus ((show Act.put _ (some 20) _ = _); (simp only [Act.put, List.setIfInBounds_toArray, List.set_cons_zero, List.set_cons_succ, i64_w, i32_w]); (rfl))); (refine one_ (i := 7) (N := some 24) (B01 10 255) rfl rfl (one_of HT_.out (by kernel_rfl)) (by decide) (fun K hK => ?_)); (refine goes_ Tryd.func42 (by kernel_rfl) rfl #[.slice A18 (l0.drop (t403 : Int).toNat).length (c0 - t403.toNat)] (by rfl) rfl rfl (by (try simp only [List.map_toArray, List.map_cons, List.map_nil]); first | done | (rw [show (l0.drop (t403 : Int).toNat).length = (l0.length - t403.toNat) from List.length_drop] <;> rfl) | rfl | (simp only [List.length_drop, List.length_take]; rfl)) ?_); (with_reducible refine (ih k (by omega) _ _ (l0.drop (t403 : Int).toNat) t407 _ ?side1 ?side2 A13.out).mono ?_); ((case side1 => repeat (first | exact (Kd.C_below HR406.out HB.out) | (with_reducible refine Kd.C_alloc ?_ _) | (with_reducible refine Kd.C_drewN ?_ _) | (with_reducible refine Kd.C_drew ?_)))); ((case side2 => exact HC406.out)); (rintro e w20 ⟨rfl, hb⟩); (refine ⟨_, rfl, ?_⟩); (have n0_ := Aside0.mk (below_step (by repeat (first | (with_reducible first | exact HB.out | apply below_alloc | apply pw_below_drewN | apply below_drew1) | exact HB.out)) hb)); (clear HB); (have HB := n0_); (clear n0_); ((try clear hb)); ((try clear hb2)); ((try clear hk)); ((try clear hi)); (refine hK.out _ _ trivial (fun hHeld => ?_)); (clear hK K); (refine norm_ (a' := ?_) ?_ ?_); (rotate_left); (focus ((show Act.put _ (some 24) _ = _); (simp only [Act.put, List.setIfInBounds_toArray, List.set_cons_zero, List.set_cons_succ, i64_w, i32_w]); (rfl))); (refine one_ (i := 8) (N := some 25) (B01 10 511) rfl rfl (one_of HT_.out (by kernel_rfl)) (by decide) (fun K hK => ?_)); (refine goes_ Tryd.func43 (by kernel_rfl) rfl #[.string t405, .string t407] (by rfl) rfl rfl (by (try simp only [List.map_toArray, List.map_cons, List.map_nil]); first | done | rfl | (simp only [List.length_drop, List.length_take]; rfl)) ?_); (with_reducible refine (sawyerref15_Node.calls t405 t407 t408 _ A14.out).mono ?_); (rintro e w21 ⟨rfl, hb⟩); (refine ⟨_, rfl, ?_⟩); (have n0_ := Aside0.mk (below_step (by repeat (first | (with_reducible first | exact HB.out | apply below_alloc | apply pw_below_drewN | apply below_drew1) | exact HB.out)) hb)); (clear HB); (have HB := n0_); (clear n0_); ((try clear hb)); ((try clear hb2)); ((try clear hk)); ((try clear hi)); (refine hK.out _ _ trivial (fun hHeld => ?_)); (clear hK K); (refine norm_ (a' := ?_) ?_ ?_); (rotate_left); (focus ((show Act.put _ (some 25) _ = _); (simp only [Act.put, List.setIfInBounds_toArray, List.set_cons_zero, List.set_cons_succ, i64_w, i32_w]); (rfl))); (refine pure_ (i := 9) (N := some 2) (v := ?_) (a' := ?_) (B01 10 1023) rfl rfl (any_of HT_.out (by kernel_rfl)) (fun _ _ _ h => h) (Or.inl ⟨by rfl, ?_⟩) ?_ ?_); (rotate_left); (focus ((intro w'); (go_simp); (with_reducible rfl))); (rotate_left); (focus ((simp only [Act.put, List.setIfInBounds_toArray, List.set_cons_zero, List.set_cons_succ, i64_w, i32_w]); (rfl))); (refine done_ (done_of HT_.out (by kernel_rfl)) ?_); (try go_wp2); (go_ret); (exact ⟨by first | rfl | (simp [errW_none, errW_some] <;> rfl) | (simp [*, errW_none, errW_some] <;> rfl), by repeat (first | (with_reducible first | exact HB.out | apply below_alloc | apply pw_below_drewN | apply below_drew1) | exact HB.out)⟩)
        focus ((rw [if_neg c9] at H); (exact absurd H (by simp)))
      focus ((rw [if_neg c8] at H); (exact absurd H (by simp)))
end Go.Proofs.YtopacnaiedlaaaaDoor.F
end
