-- JOINED BY A PROGRAM OF THIS PLACE (wip/tools/pack.py) out of: BloomF Awake7
import Derived.Test.YtojabcadoajbjaaK5
import Derived.Test.YtojabcadoajbjaaK12
import Derived.Test.YtojabcadoajbjaaK13
import Derived.Test.YtojabcadoajbjaaK14
section
/-
  bloom.Build, bloom.Has: their plain texts and their contracts.
-/
namespace Go.Proofs.Ytojabcadoajbjaa
open Go.RowKit Go.Proofs.YtojabcadoajbjaaW.PrintWords Go.Proofs.YtojabcadoajbjaaW.PrintLast Go.Proofs.YtojabcadoajbjaaW.PrintMore Go.Proofs.YtojabcadoajbjaaR
set_option linter.unusedVariables false
set_option linter.unusedSimpArgs false
def keyAt (key : List Int) (bits : Int) (k : Nat) : Int := place (crcOf key) (c1u (crcOf (key ++ [1]))) bits k
def hasB (f key : List Int) : Bool := if f.length = 0 then true else !((List.range 6).any fun k => miss f (keyAt key (8 * (f.length : Int)) k))
def buildB (keys : List (List Int)) : List Int := setAll crcOf (8 * (sizeOf_ keys.length : Int)) (List.replicate (sizeOf_ keys.length) 0) keys
def bloom_Has.f (l0 l1 : List Int) : Option Bool := if l0.length ≤ 281474976710656 ∧ l1.length ≤ 140737488354000 then some (hasB l0 l1) else none
def bloom_Build.f (l0 : List (List Int)) : Option (List Int) := if l0.length ≤ 5864062014700 ∧ ∀ r ∈ l0, r.length ≤ 140737488354000 then some (buildB l0) else none
set_option maxRecDepth 100000 in
set_option maxHeartbeats 4000000 in
theorem has_empty (A0 : Option Addr) (c0 : Nat) (A1 : Option Addr) (c1 n1 : Nat) (w : World) :
    Calls Try.prog 11 #[.slice A0 0 c0, .slice A1 n1 c1] w fun e w' => e = .returned (.bool true) ∧ Below w.heap.size w w' := by
  refine (callsIn_wide (n := 3)).1 ?_
  refine callsIn_of_wp_marks Try.func11 rfl trivial ?_ rfl
  simp only [Try.ntmps11, List.size_toArray, List.length_cons, List.length_nil, Nat.reduceAdd, Nat.reduceSub, Array.replicate_succ, Array.replicate_zero, List.push_toArray, List.append_toArray, List.nil_append, List.cons_append]
  gi_wp2
  refine ⟨.bool true, ?_, rfl, ?_⟩
  · simp [results, Try.f11, go_sem]
  · exact ((Below.refl _ _).alloc (Nat.le_refl _) _).alloc (by simp) _
theorem bloom_Has.calls (A0 : Option Addr) (c0 : Nat) (l0 : List Int) (A1 : Option Addr) (c1 : Nat) (l1 : List Int) (r : Bool) (w : World) (hr0 : Kd.C (Kd.int .u8) w A0 l0.length l0) (hc0 : l0.length ≤ c0) (hr1 : Kd.C (Kd.int .u8) w A1 l1.length l1) (hc1 : l1.length ≤ c1) (h : bloom_Has.f l0 l1 = some r) :
    Calls Try.prog 11 #[.slice A0 l0.length c0, .slice A1 l1.length c1] w fun e w' => e = .returned (.bool r) ∧ Below w.heap.size w w' := by
  unfold bloom_Has.f at h
  split at h
  case isFalse => cases h
  rename_i hok
  obtain rfl := Option.some.inj h
  by_cases h0 : l0.length = 0
  · rw [h0]
    have : hasB l0 l1 = true := by unfold hasB; rw [if_pos h0]
    rw [this]
    exact has_empty A0 c0 A1 c1 l1.length w
  · obtain ⟨k1, hk1⟩ := (F.crc_ev l1 (by omega)).rounds
    obtain ⟨k2, hk2⟩ := (F.crc_ev (l1 ++ [1]) (by simp; omega)).rounds
    exact has_walk k1 k2 A0 c0 l0 A1 c1 l1 (crcOf l1) (crcOf (l1 ++ [1])) w hr0 hc0 hr1 hc1 (by omega) hok.1 (by omega) hk1 hk2 (crcOf_range l1) _ (by unfold hasB; rw [if_neg h0]; rfl)
theorem bloom_Build.calls (A0 : Option Addr) (c0 : Nat) (l0 : List (List Int)) (r : List Int) (w : World) (hr0 : Kd.C (Kd.slice 5 (Kd.int .u8)) w A0 l0.length l0) (hc0 : l0.length ≤ c0) (h : bloom_Build.f l0 = some r) :
    Calls Try.prog 9 #[.slice A0 l0.length c0] w fun e w' => ∃ v0_ : Value, e = .returned (v0_) ∧ Kd.R (Kd.int .u8) 5 w' w.heap.size (fun _ => True) v0_ r ∧ Below w.heap.size w w' := by
  unfold bloom_Build.f at h
  split at h
  case isFalse => cases h
  rename_i hok
  obtain rfl := Option.some.inj h
  exact build_walk A0 c0 l0 crcOf w hr0 hc0 hok.1 (fun key hk => ⟨by have := hok.2 key hk; omega, (F.crc_ev key (by have := hok.2 key hk; omega)).rounds, (F.crc_ev (key ++ [1]) (by have := hok.2 key hk; simp; omega)).rounds, (crcOf_range key).1, (crcOf_range key).2⟩)
end Go.Proofs.Ytojabcadoajbjaa
end
section
/-
  awake of the filters' statements: it answers true.
-/
namespace Go.Proofs.Ytojabcadoajbjaa
open Go.RowKit Go.Proofs.YtojabcadoajbjaaW.PrintWords Go.Proofs.YtojabcadoajbjaaW.PrintLast Go.Proofs.YtojabcadoajbjaaW.PrintMore
set_option linter.unusedVariables false
set_option linter.unusedSimpArgs false
def sawyerlaw07_awake.f : Option Bool := some true
namespace F
theorem has_some (f key : List Int) (hf2 : f.length ≤ 281474976710656) (hl : key.length ≤ 140737488354000) : bloom_Has.f f key = some (hasB f key) := if_pos ⟨hf2, hl⟩
theorem build_some (keys : List (List Int)) (hks : ∀ r ∈ keys, r.length ≤ 140737488354000) (hkl : keys.length ≤ 5864062014700) : bloom_Build.f keys = some (buildB keys) := if_pos ⟨hkl, hks⟩
theorem buildB_length (keys : List (List Int)) : (buildB keys).length = sizeOf_ keys.length := by
  unfold buildB
  rw [setAll_length, List.length_replicate]
theorem aw_has : hasB (buildB [[97]]) [97] = true := by decide +kernel
theorem aw_not : hasB (buildB []) [97] = false := by decide +kernel
theorem awake_some : sawyerlaw07_awake.f = some true := rfl
end F
theorem conv97 (W : World) : ∃ W', Sem.run Try.prog (convert 25 25 (.slice (some ⟨W.heap.size, 0, none⟩) 1 1)) (W.alloc (.cells #[.int .u8 97] 5)) = .ok (.slice (some ⟨W.heap.size, 0, none⟩) 1 1) W' ∧ Below W.heap.size W W' ∧ Kd.C (Kd.int .u8) W' (some ⟨W.heap.size, 0, none⟩) 1 [97] := by
  have hR : Kd.R (Kd.int .u8) 5 (W.alloc (.cells #[.int .u8 97] 5)) W.heap.size (fun _ => True) (.slice (some ⟨W.heap.size, 0, none⟩) 1 1) [97] :=
    Kd.R_of_own ⟨rfl, .inr ⟨W.heap.size, 1, #[.int .u8 97], rfl, Nat.le_refl _, World.alloc_heap_new W _, Nat.le_refl _, by decide, rfl, rfl⟩⟩ (fun _ _ => trivial)
  obtain ⟨W', h1, h2, h3, h4⟩ := conv_run hR (by decide)
  exact ⟨W', h1, ((Below.refl _ _).alloc (Nat.le_refl _) _).trans h2, h3⟩
theorem litKeys (X : World) (A : Option Addr) (h : Kd.C (Kd.int .u8) X A 1 [97]) : Kd.C (Kd.slice 5 (Kd.int .u8)) (X.alloc (.cells #[.slice A 1 1] 25)) (some ⟨X.heap.size, 0, none⟩) 1 [[97]] := by
  refine ⟨rfl, by decide, fun _ => ⟨_, rfl, fun j p hj => ?_⟩⟩
  have : j = 0 := by
    cases j with
    | zero => rfl
    | succ j => simp at hj
  subst this
  simp at hj
  subst hj
  refine ⟨[.slice A 1 1], rfl, ⟨_, _, rfl, Nat.le_refl _, Kd.C_alloc h _⟩, fun i u hu => ?_⟩
  have hi : i = 0 := by
    cases i with
    | zero => rfl
    | succ i => simp at hu
  subst hi
  simp at hu
  subst hu
  rw [add_plain]
  exact cell_of_one (World.alloc_heap_new X _)
set_option maxRecDepth 100000 in
set_option maxHeartbeats 8000000 in
theorem awake7_calls (w : World) : Calls Try.prog 7 #[] w fun e w' => e = .returned (.bool true) ∧ Below w.heap.size w w' := by
  have b1 : bloom_Build.f [[97]] = some (buildB [[97]]) := F.build_some _ (by intro r hr; simp at hr; subst hr; decide) (by decide)
  have b2 : bloom_Build.f [] = some (buildB []) := F.build_some _ (by intro r hr; cases hr) (by decide)
  have l1 : (buildB [[97]]).length = 8 := F.buildB_length _
  have l2 : (buildB []).length = 8 := F.buildB_length _
  have a1 : bloom_Has.f (buildB [[97]]) [97] = some true := by rw [F.has_some _ _ (by omega) (by decide), F.aw_has]
  have a2 : bloom_Has.f (buildB []) [97] = some false := by rw [F.has_some _ _ (by omega) (by decide), F.aw_not]
  have a3 : bloom_Has.f [] [] = some true := F.has_some _ _ (by decide) (by decide)
  generalize buildB [[97]] = p at *
  generalize buildB [] = q at *
  have B1 := Lib.hid b1
  have B2 := Lib.hid b2
  have A1 := Lib.hid a1
  have A2 := Lib.hid a2
  have A3 := Lib.hid a3
  have h8 : ((p.length : Int) == 8) = true := by rw [l1]; rfl
  clear b1 b2 a1 a2 a3 l1 l2
  obtain ⟨X1, hx1, hxb1, hxc1⟩ := conv97 w
  have HXB1 := Lib.hid hxb1
  have HXC1 := Lib.hid hxc1
  clear hxb1 hxc1
  go_enter Try.func7, Try.ntmps7
  go_wp2_with fail
  refine (bloom_Build.calls (some ⟨X1.heap.size, 0, none⟩) 1 [[97]] p _ (litKeys X1 _ HXC1.out) (Nat.le_refl _) B1.out).mono ?_
  rintro e w1 ⟨v1, rfl, ho1, hb1⟩
  obtain ⟨P1, d1, rfl⟩ := Kd.R_slice ho1
  have HB1 : Hid (Below w.heap.size w w1) := Lib.hid (below_then (HXB1.out.alloc HXB1.out.size _) (by have := HXB1.out.size; simp; omega) hb1)
  have CP := Lib.hid (Kd.R_reads' ho1).2.2
  have CPl := Lib.hid (Kd.R_reads' ho1).2.1
  obtain ⟨X2, hx2, hxb2, hxc2⟩ := conv97 w1
  have HXB2 := Lib.hid hxb2
  have HXC2 := Lib.hid hxc2
  clear ho1 hb1 hxb2 hxc2 hx1
  go_wp2_with fail
  refine (bloom_Has.calls P1 d1 p (some ⟨w1.heap.size, 0, none⟩) 1 [97] true _ (Kd.C_below CP.out HXB2.out) CPl.out HXC2.out (Nat.le_refl _) A1.out).mono ?_
  rintro e w2 ⟨rfl, hb2⟩
  have HB2 : Hid (Below w.heap.size w w2) := Lib.hid (below_then (below_then HB1.out HB1.out.size HXB2.out) (Nat.le_trans HB1.out.size HXB2.out.size) hb2)
  clear hb2 HB1 CP CPl
  go_wp2_with fail
  refine (bloom_Build.calls none 0 [] q _ (Kd.C_nil _ _) (Nat.le_refl _) B2.out).mono ?_
  rintro e w3 ⟨v3, rfl, ho3, hb3⟩
  obtain ⟨P3, d3, rfl⟩ := Kd.R_slice ho3
  have HB3 : Hid (Below w.heap.size w w3) := Lib.hid (below_then HB2.out HB2.out.size hb3)
  have CQ := Lib.hid (Kd.R_reads' ho3).2.2
  have CQl := Lib.hid (Kd.R_reads' ho3).2.1
  obtain ⟨X4, hx4, hxb4, hxc4⟩ := conv97 w3
  have HXB4 := Lib.hid hxb4
  have HXC4 := Lib.hid hxc4
  clear ho3 hb3 HB2 hxb4 hxc4 hx2
  go_wp2_with fail
  refine (bloom_Has.calls P3 d3 q (some ⟨w3.heap.size, 0, none⟩) 1 [97] false _ (Kd.C_below CQ.out HXB4.out) CQl.out HXC4.out (Nat.le_refl _) A2.out).mono ?_
  rintro e w4 ⟨rfl, hb4⟩
  have HB4 : Hid (Below w.heap.size w w4) := Lib.hid (below_then (below_then HB3.out HB3.out.size HXB4.out) (Nat.le_trans HB3.out.size HXB4.out.size) hb4)
  clear hb4 HB3 CQ CQl hx4
  go_wp2_with fail
  refine (bloom_Has.calls none 0 [] none 0 [] true _ (Kd.C_nil _ _) (Nat.le_refl _) (Kd.C_nil _ _) (Nat.le_refl _) A3.out).mono ?_
  rintro e w5 ⟨rfl, hb5⟩
  have HB5 : Hid (Below w.heap.size w w5) := Lib.hid (below_then HB4.out HB4.out.size hb5)
  clear hb5 HB4
  go_wp2
  go_ret
  exact ⟨rfl, HB5.out⟩
theorem sawyerlaw07_awake.calls (r : Bool) (w : World) (h : sawyerlaw07_awake.f = some r) : Calls Try.prog 7 #[] w fun e w' => e = .returned (.bool r) ∧ Below w.heap.size w w' := by
  cases h
  exact awake7_calls w
end Go.Proofs.Ytojabcadoajbjaa
end
