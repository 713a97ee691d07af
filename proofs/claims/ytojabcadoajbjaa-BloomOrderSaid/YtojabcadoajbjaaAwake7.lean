/-
  awake of the filters' statements: it answers true.
-/
import Derived.Test.YtojabcadoajbjaaBloomF
import Derived.Test.YtojabcadoajbjaaConv
namespace Go.Proofs.Ytojabcadoajbjaa
open Go.RowKit Go.Proofs.YtojabcadoajbjaaW.PrintWords Go.Proofs.YtojabcadoajbjaaW.PrintLast Go.Proofs.YtojabcadoajbjaaW.PrintMore
set_option linter.unusedVariables false
set_option linter.unusedSimpArgs false

def sawyerlaw07_awake.f : Option Bool := some true
namespace F
theorem has_some (f key : List Int) (hf2 : f.length ≤ 281474976710656) (hl : key.length ≤ 140737488354000) : bloom_Has.f f key = some (hasB f key) := if_pos ⟨hf2, hl⟩
theorem build_some (keys : List (List Int)) (hks : ∀ r ∈ keys, r.length ≤ 140737488354000) (hkl : keys.length ≤ 5864062014700) : bloom_Build.f keys = some (buildB keys) := if_pos ⟨hkl, hks⟩
theorem buildB_length (keys : List (List Int)) : (buildB keys).length = sizeOf_ keys.length := by
  unfold buildB
  rw [setAll_length, List.length_replicate]
theorem aw_has : hasB (buildB [[97]]) [97] = true := by decide +kernel
theorem aw_not : hasB (buildB []) [97] = false := by decide +kernel
theorem awake_some : sawyerlaw07_awake.f = some true := rfl
end F
theorem conv97 (W : World) : ∃ W', Sem.run Try.prog (convert 25 25 (.slice (some ⟨W.heap.size, 0, none⟩) 1 1)) (W.alloc (.cells #[.int .u8 97] 5)) = .ok (.slice (some ⟨W.heap.size, 0, none⟩) 1 1) W' ∧ Below W.heap.size W W' ∧ Kd.C (Kd.int .u8) W' (some ⟨W.heap.size, 0, none⟩) 1 [97] := by
  have hR : Kd.R (Kd.int .u8) 5 (W.alloc (.cells #[.int .u8 97] 5)) W.heap.size (fun _ => True) (.slice (some ⟨W.heap.size, 0, none⟩) 1 1) [97] :=
    Kd.R_of_own ⟨rfl, .inr ⟨W.heap.size, 1, #[.int .u8 97], rfl, Nat.le_refl _, World.alloc_heap_new W _, Nat.le_refl _, by decide, rfl, rfl⟩⟩ (fun _ _ => trivial)
  obtain ⟨W', h1, h2, h3, h4⟩ := conv_run hR (by decide)
  exact ⟨W', h1, ((Below.refl _ _).alloc (Nat.le_refl _) _).trans h2, h3⟩
theorem litKeys (X : World) (A : Option Addr) (h : Kd.C (Kd.int .u8) X A 1 [97]) : Kd.C (Kd.slice 5 (Kd.int .u8)) (X.alloc (.cells #[.slice A 1 1] 25)) (some ⟨X.heap.size, 0, none⟩) 1 [[97]] := by
  refine ⟨rfl, by decide, fun _ => ⟨_, rfl, fun j p hj => ?_⟩⟩
  have : j = 0 := by
    cases j with
    | zero => rfl
    | succ j => simp at hj
  subst this
  simp at hj
  subst hj
  refine ⟨[.slice A 1 1], rfl, ⟨_, _, rfl, Nat.le_refl _, Kd.C_alloc h _⟩, fun i u hu => ?_⟩
  have hi : i = 0 := by
    cases i with
    | zero => rfl
    | succ i => simp at hu
  subst hi
  simp at hu
  subst hu
  rw [add_plain]
  exact cell_of_one (World.alloc_heap_new X _)

set_option maxRecDepth 100000 in
set_option maxHeartbeats 8000000 in
theorem awake7_calls (w : World) : Calls Try.prog 7 #[] w fun e w' => e = .returned (.bool true) ∧ Below w.heap.size w w' := by
  have b1 : bloom_Build.f [[97]] = some (buildB [[97]]) := F.build_some _ (by intro r hr; simp at hr; subst hr; decide) (by decide)
  have b2 : bloom_Build.f [] = some (buildB []) := F.build_some _ (by intro r hr; cases hr) (by decide)
  have l1 : (buildB [[97]]).length = 8 := F.buildB_length _
  have l2 : (buildB []).length = 8 := F.buildB_length _
  have a1 : bloom_Has.f (buildB [[97]]) [97] = some true := by rw [F.has_some _ _ (by omega) (by decide), F.aw_has]
  have a2 : bloom_Has.f (buildB []) [97] = some false := by rw [F.has_some _ _ (by omega) (by decide), F.aw_not]
  have a3 : bloom_Has.f [] [] = some true := F.has_some _ _ (by decide) (by decide)
  generalize buildB [[97]] = p at *
  generalize buildB [] = q at *
  have B1 := Lib.hid b1
  have B2 := Lib.hid b2
  have A1 := Lib.hid a1
  have A2 := Lib.hid a2
  have A3 := Lib.hid a3
  have h8 : ((p.length : Int) == 8) = true := by rw [l1]; rfl
  clear b1 b2 a1 a2 a3 l1 l2
  obtain ⟨X1, hx1, hxb1, hxc1⟩ := conv97 w
  have HXB1 := Lib.hid hxb1
  have HXC1 := Lib.hid hxc1
  clear hxb1 hxc1
  go_enter Try.func7, Try.ntmps7
  go_wp2_with fail
  refine (bloom_Build.calls (some ⟨X1.heap.size, 0, none⟩) 1 [[97]] p _ (litKeys X1 _ HXC1.out) (Nat.le_refl _) B1.out).mono ?_
  rintro e w1 ⟨v1, rfl, ho1, hb1⟩
  obtain ⟨P1, d1, rfl⟩ := Kd.R_slice ho1
  have HB1 : Hid (Below w.heap.size w w1) := Lib.hid (below_then (HXB1.out.alloc HXB1.out.size _) (by have := HXB1.out.size; simp; omega) hb1)
  have CP := Lib.hid (Kd.R_reads' ho1).2.2
  have CPl := Lib.hid (Kd.R_reads' ho1).2.1
  obtain ⟨X2, hx2, hxb2, hxc2⟩ := conv97 w1
  have HXB2 := Lib.hid hxb2
  have HXC2 := Lib.hid hxc2
  clear ho1 hb1 hxb2 hxc2 hx1
  go_wp2_with fail
  refine (bloom_Has.calls P1 d1 p (some ⟨w1.heap.size, 0, none⟩) 1 [97] true _ (Kd.C_below CP.out HXB2.out) CPl.out HXC2.out (Nat.le_refl _) A1.out).mono ?_
  rintro e w2 ⟨rfl, hb2⟩
  have HB2 : Hid (Below w.heap.size w w2) := Lib.hid (below_then (below_then HB1.out HB1.out.size HXB2.out) (Nat.le_trans HB1.out.size HXB2.out.size) hb2)
  clear hb2 HB1 CP CPl
  go_wp2_with fail
  refine (bloom_Build.calls none 0 [] q _ (Kd.C_nil _ _) (Nat.le_refl _) B2.out).mono ?_
  rintro e w3 ⟨v3, rfl, ho3, hb3⟩
  obtain ⟨P3, d3, rfl⟩ := Kd.R_slice ho3
  have HB3 : Hid (Below w.heap.size w w3) := Lib.hid (below_then HB2.out HB2.out.size hb3)
  have CQ := Lib.hid (Kd.R_reads' ho3).2.2
  have CQl := Lib.hid (Kd.R_reads' ho3).2.1
  obtain ⟨X4, hx4, hxb4, hxc4⟩ := conv97 w3
  have HXB4 := Lib.hid hxb4
  have HXC4 := Lib.hid hxc4
  clear ho3 hb3 HB2 hxb4 hxc4 hx2
  go_wp2_with fail
  refine (bloom_Has.calls P3 d3 q (some ⟨w3.heap.size, 0, none⟩) 1 [97] false _ (Kd.C_below CQ.out HXB4.out) CQl.out HXC4.out (Nat.le_refl _) A2.out).mono ?_
  rintro e w4 ⟨rfl, hb4⟩
  have HB4 : Hid (Below w.heap.size w w4) := Lib.hid (below_then (below_then HB3.out HB3.out.size HXB4.out) (Nat.le_trans HB3.out.size HXB4.out.size) hb4)
  clear hb4 HB3 CQ CQl hx4
  go_wp2_with fail
  refine (bloom_Has.calls none 0 [] none 0 [] true _ (Kd.C_nil _ _) (Nat.le_refl _) (Kd.C_nil _ _) (Nat.le_refl _) A3.out).mono ?_
  rintro e w5 ⟨rfl, hb5⟩
  have HB5 : Hid (Below w.heap.size w w5) := Lib.hid (below_then HB4.out HB4.out.size hb5)
  clear hb5 HB4
  go_wp2
  go_ret
  exact ⟨rfl, HB5.out⟩
theorem sawyerlaw07_awake.calls (r : Bool) (w : World) (h : sawyerlaw07_awake.f = some r) : Calls Try.prog 7 #[] w fun e w' => e = .returned (.bool r) ∧ Below w.heap.size w w' := by
  cases h
  exact awake7_calls w
end Go.Proofs.Ytojabcadoajbjaa
