-- JOINED BY A PROGRAM OF THIS PLACE (wip/tools/pack.py) out of: Bits
import Derived.Laws.MathBits
import Derived.Lib.Tables
import Derived.Test.YtopacnaiedlaaaaDoorL6
section
/-
  math/bits.Len of a number of 64 bits: how many digits it has in binary.
-/
namespace Go.Proofs.YtopacnaiedlaaaaDoor
open Go.RowKit Go.Proofs.YtopacnaiedlaaaaDoorW.PrintWords Go.Proofs.YtopacnaiedlaaaaDoorW.PrintLast Go.Proofs.YtopacnaiedlaaaaDoorW.PrintMore
set_option linter.unusedVariables false
set_option linter.unusedSimpArgs false
def bits_Len.f (a0 : Int) : Option Int := if 0 ≤ a0 ∧ a0 ≤ 18446744073709551615 then some (bitLen a0.toNat : Int) else none
theorem len8_at (i : Int) (h : i.toNat < Lib.len8tab.size) : ((Lib.len8tab[i.toNat]'h).toNat : Int) = (bitLen i.toNat : Int) := congrArg Int.ofNat (len8tab_get i.toNat h)
theorem len_shift (x y : Int) (b : Nat) (hb : b ≤ 56) (h0 : 0 ≤ x) (hy : y = x / ((2 ^ b : Nat) : Int)) (h1 : 1 ≤ y) (h2 : y ≤ 255) : bitLen x.toNat = b + bitLen y.toNat ∧ bitLen y.toNat ≤ 8 := by
  have e : y.toNat = x.toNat / 2 ^ b := by
    obtain ⟨n, rfl⟩ := Int.eq_ofNat_of_zero_le h0
    rw [hy, Int.toNat_natCast]
    exact congrArg Int.toNat (Int.natCast_ediv n (2 ^ b)).symm
  refine ⟨?_, bitLen_le8 _ (by omega)⟩
  rw [e]
  exact bitLen_shift _ _ (by rw [← e]; omega)
theorem wrap_len (b n m : Nat) (hb : b ≤ 56) (hn : n ≤ 8) (hm : m = b + n) : wrap64 ((b : Int) + wrap64 (n : Int)) = (m : Int) := by
  unfold wrap64
  omega
theorem wrap_len0 (n : Nat) (hn : n ≤ 8) : wrap64 (wrap64 (n : Int)) = (n : Int) := by
  unfold wrap64
  omega
theorem wrap_len1 (n : Nat) (hn : n ≤ 8) : wrap64 (n : Int) = (n : Int) := by
  unfold wrap64
  omega
set_option maxHeartbeats 8000000 in
set_option maxRecDepth 1000000 in
theorem len64_calls (x : Int) (w : World) (h0 : 0 ≤ x) (h1 : x ≤ 18446744073709551615) :
    Calls Tryd.prog 52 #[.int .u64 x] w fun e w' => e = .returned (.int .i64 (bitLen x.toNat : Int)) ∧ w' = w := by
  go_enter Tryd.func52, Tryd.ntmps52
  go_wp2
  all_goals first
    | (go_ret; refine ⟨congrArg Ending.returned (congrArg (Value.int IntKind.i64) ?_), rfl⟩; rw [len8_at])
    | (exfalso; have hs := Lib.len8tab_size; omega)
  · obtain ⟨e, l⟩ := len_shift x (x / 4294967296 / 65536 / 256) 56 (by omega) h0 (by omega) (by omega) (by omega); exact wrap_len 56 _ _ (by omega) l e
  · obtain ⟨e, l⟩ := len_shift x (x / 4294967296 / 65536) 48 (by omega) h0 (by omega) (by omega) (by omega); exact wrap_len 48 _ _ (by omega) l e
  · obtain ⟨e, l⟩ := len_shift x (x / 4294967296 / 256) 40 (by omega) h0 (by omega) (by omega) (by omega); exact wrap_len 40 _ _ (by omega) l e
  · obtain ⟨e, l⟩ := len_shift x (x / 4294967296) 32 (by omega) h0 (by omega) (by omega) (by omega); exact wrap_len 32 _ _ (by omega) l e
  · obtain ⟨e, l⟩ := len_shift x (x / 65536 / 256) 24 (by omega) h0 (by omega) (by omega) (by omega); exact wrap_len 24 _ _ (by omega) l e
  · obtain ⟨e, l⟩ := len_shift x (x / 65536) 16 (by omega) h0 (by omega) (by omega) (by omega); exact wrap_len 16 _ _ (by omega) l e
  · obtain ⟨e, l⟩ := len_shift x (x / 256) 8 (by omega) h0 (by omega) (by omega) (by omega); exact wrap_len 8 _ _ (by omega) l e
  · have l := bitLen_le8 x.toNat (by omega)
    first | exact wrap_len0 _ l | exact wrap_len1 _ l
set_option maxRecDepth 100000 in
theorem bits_Len.calls (a0 : Int) (r : Int) (w : World) (h : bits_Len.f a0 = some r) :
    Calls Tryd.prog 29 #[.int .u64 a0] w fun e w' => e = .returned (.int .i64 r) ∧ Below w.heap.size w w' := by
  unfold bits_Len.f at h
  split at h
  case isFalse => cases h
  rename_i hok
  obtain rfl := Option.some.inj h
  clear h
  obtain ⟨h0, h1⟩ := hok
  go_enter Tryd.func29, Tryd.ntmps29
  go_wp2_with fail
  refine (len64_calls a0 _ h0 h1).mono ?_
  rintro e w' ⟨rfl, rfl⟩
  go_wp2
  go_ret
  exact ⟨rfl, Below.refl _ _⟩
end Go.Proofs.YtopacnaiedlaaaaDoor
end
