/-
  bloom.Build, bloom.Has: their plain texts and their contracts.
-/
import Derived.Test.YtojabcadoajbjaaHas
import Derived.Test.YtojabcadoajbjaaBuild
import Derived.Test.YtojabcadoajbjaaCrc
namespace Go.Proofs.Ytojabcadoajbjaa
open Go.RowKit Go.Proofs.YtojabcadoajbjaaW.PrintWords Go.Proofs.YtojabcadoajbjaaW.PrintLast Go.Proofs.YtojabcadoajbjaaW.PrintMore Go.Proofs.YtojabcadoajbjaaR
set_option linter.unusedVariables false
set_option linter.unusedSimpArgs false

def keyAt (key : List Int) (bits : Int) (k : Nat) : Int := place (crcOf key) (c1u (crcOf (key ++ [1]))) bits k
def hasB (f key : List Int) : Bool := if f.length = 0 then true else !((List.range 6).any fun k => miss f (keyAt key (8 * (f.length : Int)) k))
def buildB (keys : List (List Int)) : List Int := setAll crcOf (8 * (sizeOf_ keys.length : Int)) (List.replicate (sizeOf_ keys.length) 0) keys
def bloom_Has.f (l0 l1 : List Int) : Option Bool := if l0.length ≤ 281474976710656 ∧ l1.length ≤ 140737488354000 then some (hasB l0 l1) else none
def bloom_Build.f (l0 : List (List Int)) : Option (List Int) := if l0.length ≤ 5864062014700 ∧ ∀ r ∈ l0, r.length ≤ 140737488354000 then some (buildB l0) else none

set_option maxRecDepth 100000 in
set_option maxHeartbeats 4000000 in
theorem has_empty (A0 : Option Addr) (c0 : Nat) (A1 : Option Addr) (c1 n1 : Nat) (w : World) :
    Calls Try.prog 11 #[.slice A0 0 c0, .slice A1 n1 c1] w fun e w' => e = .returned (.bool true) ∧ Below w.heap.size w w' := by
  refine (callsIn_wide (n := 3)).1 ?_
  refine callsIn_of_wp_marks Try.func11 rfl trivial ?_ rfl
  simp only [Try.ntmps11, List.size_toArray, List.length_cons, List.length_nil, Nat.reduceAdd, Nat.reduceSub, Array.replicate_succ, Array.replicate_zero, List.push_toArray, List.append_toArray, List.nil_append, List.cons_append]
  gi_wp2
  refine ⟨.bool true, ?_, rfl, ?_⟩
  · simp [results, Try.f11, go_sem]
  · exact ((Below.refl _ _).alloc (Nat.le_refl _) _).alloc (by simp) _

theorem bloom_Has.calls (A0 : Option Addr) (c0 : Nat) (l0 : List Int) (A1 : Option Addr) (c1 : Nat) (l1 : List Int) (r : Bool) (w : World) (hr0 : Kd.C (Kd.int .u8) w A0 l0.length l0) (hc0 : l0.length ≤ c0) (hr1 : Kd.C (Kd.int .u8) w A1 l1.length l1) (hc1 : l1.length ≤ c1) (h : bloom_Has.f l0 l1 = some r) :
    Calls Try.prog 11 #[.slice A0 l0.length c0, .slice A1 l1.length c1] w fun e w' => e = .returned (.bool r) ∧ Below w.heap.size w w' := by
  unfold bloom_Has.f at h
  split at h
  case isFalse => cases h
  rename_i hok
  obtain rfl := Option.some.inj h
  by_cases h0 : l0.length = 0
  · rw [h0]
    have : hasB l0 l1 = true := by unfold hasB; rw [if_pos h0]
    rw [this]
    exact has_empty A0 c0 A1 c1 l1.length w
  · obtain ⟨k1, hk1⟩ := (F.crc_ev l1 (by omega)).rounds
    obtain ⟨k2, hk2⟩ := (F.crc_ev (l1 ++ [1]) (by simp; omega)).rounds
    exact has_walk k1 k2 A0 c0 l0 A1 c1 l1 (crcOf l1) (crcOf (l1 ++ [1])) w hr0 hc0 hr1 hc1 (by omega) hok.1 (by omega) hk1 hk2 (crcOf_range l1) _ (by unfold hasB; rw [if_neg h0]; rfl)

theorem bloom_Build.calls (A0 : Option Addr) (c0 : Nat) (l0 : List (List Int)) (r : List Int) (w : World) (hr0 : Kd.C (Kd.slice 5 (Kd.int .u8)) w A0 l0.length l0) (hc0 : l0.length ≤ c0) (h : bloom_Build.f l0 = some r) :
    Calls Try.prog 9 #[.slice A0 l0.length c0] w fun e w' => ∃ v0_ : Value, e = .returned (v0_) ∧ Kd.R (Kd.int .u8) 5 w' w.heap.size (fun _ => True) v0_ r ∧ Below w.heap.size w w' := by
  unfold bloom_Build.f at h
  split at h
  case isFalse => cases h
  rename_i hok
  obtain rfl := Option.some.inj h
  exact build_walk A0 c0 l0 crcOf w hr0 hc0 hok.1 (fun key hk => ⟨by have := hok.2 key hk; omega, (F.crc_ev key (by have := hok.2 key hk; omega)).rounds, (F.crc_ev (key ++ [1]) (by have := hok.2 key hk; simp; omega)).rounds, (crcOf_range key).1, (crcOf_range key).2⟩)
end Go.Proofs.Ytojabcadoajbjaa
