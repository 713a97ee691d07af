-- JOINED BY A PROGRAM OF THIS PLACE (wip/tools/pack.py) out of: Ones SpanCheck F39
import Derived.Test.YtopacnaiedlaaaaDoorL6
import Derived.Test.YtopacnaiedlaaaaDoorL13
import Derived.Test.YtopacnaiedlaaaaDoorL17
import Derived.Test.YtopacnaiedlaaaaDoorL27
section
/-
  math/bits.OnesCount of a number of 64 bits: how many ones it has in binary (the count by pairs, nibbles, bytes is the sum of the digits).
-/
namespace Go.Proofs.YtopacnaiedlaaaaDoor
open Go.RowKit Go.Proofs.YtopacnaiedlaaaaDoorW.PrintWords Go.Proofs.YtopacnaiedlaaaaDoorW.PrintLast Go.Proofs.YtopacnaiedlaaaaDoorW.PrintMore
set_option linter.unusedVariables false
set_option linter.unusedSimpArgs false
namespace Pop
def popAux : Nat → Nat → Nat
  | 0, _ => 0
  | f + 1, x => x % 2 + popAux f (x / 2)
/-- the sum of n digits, in the base 2^w -/
def dsum (w : Nat) : Nat → Nat → Nat
  | 0, _ => 0
  | n + 1, x => x % 2 ^ w + dsum w n (x / 2 ^ w)
/-- the digits of x, added by twos -/
def pairs (w : Nat) : Nat → Nat → Nat
  | 0, _ => 0
  | n + 1, x => (x % 2 ^ w + x / 2 ^ w % 2 ^ w) + 2 ^ (2 * w) * pairs w n (x / 2 ^ (2 * w))
def mask (w : Nat) : Nat → Nat
  | 0 => 0
  | n + 1 => (2 ^ w - 1) + 2 ^ (2 * w) * mask w n
/-- every digit is less than half the base -/
def small (w : Nat) : Nat → Nat → Prop
  | 0, x => x = 0
  | n + 1, x => x % 2 ^ w < 2 ^ (w - 1) ∧ small w n (x / 2 ^ w)
theorem two_pow_two (w : Nat) : 2 ^ (2 * w) = 2 ^ w * 2 ^ w := by rw [Nat.two_mul, Nat.pow_add]
theorem div_two (w x : Nat) : x / 2 ^ w / 2 ^ w = x / 2 ^ (2 * w) := by rw [Nat.div_div_eq_div_mul, two_pow_two]
theorem pos (w : Nat) : 0 < 2 ^ w := Nat.two_pow_pos w
theorem sum_lt (w a b : Nat) (hw : 1 ≤ w) (ha : a < 2 ^ w) (hb : b < 2 ^ w) : a + b < 2 ^ (2 * w) := by
  have h1 : 2 ≤ 2 ^ w := by
    have := Nat.pow_le_pow_right (n := 2) (by omega) hw
    omega
  have h2 : 2 * 2 ^ w ≤ 2 ^ w * 2 ^ w := Nat.mul_le_mul_right _ h1
  rw [two_pow_two]
  omega
theorem pairs_sum (w : Nat) (hw : 1 ≤ w) : ∀ (n x : Nat), dsum (2 * w) n (pairs w n x) = dsum w (2 * n) x
  | 0, x => rfl
  | n + 1, x => by
    have h := sum_lt w (x % 2 ^ w) (x / 2 ^ w % 2 ^ w) hw (Nat.mod_lt _ (pos w)) (Nat.mod_lt _ (pos w))
    rw [show 2 * (n + 1) = (2 * n + 1) + 1 from rfl, dsum, dsum, dsum, pairs, Nat.add_mul_mod_self_left, Nat.mod_eq_of_lt h, Nat.add_mul_div_left _ _ (pos _), Nat.div_eq_of_lt h, Nat.zero_add, pairs_sum w hw n, div_two, Nat.add_assoc]
theorem and_cut (k a b c d : Nat) (ha : a < 2 ^ k) (hc : c < 2 ^ k) : (a + 2 ^ k * b) &&& (c + 2 ^ k * d) = (a &&& c) + 2 ^ k * (b &&& d) := by
  have hac : a &&& c < 2 ^ k := Nat.lt_of_le_of_lt Nat.and_le_left ha
  refine Nat.eq_of_testBit_eq fun j => ?_
  rw [Nat.testBit_and, Nat.add_comm a, Nat.add_comm c, Nat.add_comm (a &&& c), Nat.testBit_two_pow_mul_add _ ha, Nat.testBit_two_pow_mul_add _ hc, Nat.testBit_two_pow_mul_add _ hac]
  by_cases h : j < k
  · simp only [if_pos h, Nat.testBit_and]
  · simp only [if_neg h, Nat.testBit_and]
theorem mask_lt (w : Nat) : 2 ^ w - 1 < 2 ^ (2 * w) := by
  have h := pos w
  have h2 : 1 * 2 ^ w ≤ 2 ^ w * 2 ^ w := Nat.mul_le_mul_right _ h
  rw [two_pow_two]
  omega
theorem and_mask (w n x : Nat) : x &&& mask w (n + 1) = x % 2 ^ w + 2 ^ (2 * w) * (x / 2 ^ (2 * w) &&& mask w n) := by
  have e : x = x % 2 ^ (2 * w) + 2 ^ (2 * w) * (x / 2 ^ (2 * w)) := (Nat.mod_add_div _ _).symm
  have h := and_cut (2 * w) (x % 2 ^ (2 * w)) (x / 2 ^ (2 * w)) (2 ^ w - 1) (mask w n) (Nat.mod_lt _ (pos _)) (mask_lt w)
  rw [← e] at h
  rw [mask, h, Nat.and_two_pow_sub_one_eq_mod, Nat.mod_mod_of_dvd _ ⟨2 ^ w, two_pow_two w⟩]
theorem pairs_and (w : Nat) : ∀ (n x : Nat), (x / 2 ^ w &&& mask w n) + (x &&& mask w n) = pairs w n x
  | 0, x => by simp [mask, pairs]
  | n + 1, x => by
    rw [and_mask, and_mask, pairs, ← pairs_and w n (x / 2 ^ (2 * w)), Nat.mul_add, Nat.div_div_eq_div_mul, Nat.mul_comm (2 ^ w), ← Nat.div_div_eq_div_mul]
    omega
theorem pairs_lt (w : Nat) (hw : 1 ≤ w) : ∀ (n x : Nat), pairs w n x < 2 ^ (2 * w * n)
  | 0, x => by simp [pairs]
  | n + 1, x => by
    have h := sum_lt w (x % 2 ^ w) (x / 2 ^ w % 2 ^ w) hw (Nat.mod_lt _ (pos w)) (Nat.mod_lt _ (pos w))
    have h2 := pairs_lt w hw n (x / 2 ^ (2 * w))
    have h3 : 2 ^ (2 * w) * (pairs w n (x / 2 ^ (2 * w)) + 1) ≤ 2 ^ (2 * w) * 2 ^ (2 * w * n) := Nat.mul_le_mul_left _ h2
    rw [pairs, Nat.mul_succ, Nat.pow_add, Nat.mul_comm (2 ^ (2 * w * n))]
    rw [Nat.mul_add] at h3
    omega
theorem pairs_small (w : Nat) (hw : 2 ≤ w) : ∀ (n x : Nat), small (2 * w) n (pairs w n x)
  | 0, x => rfl
  | n + 1, x => by
    have hm := Nat.mod_lt x (pos w)
    have hn := Nat.mod_lt (x / 2 ^ w) (pos w)
    have h := sum_lt w (x % 2 ^ w) (x / 2 ^ w % 2 ^ w) (by omega) hm hn
    have h4 : 2 ^ (w + 1) ≤ 2 ^ (2 * w - 1) := Nat.pow_le_pow_right (by omega) (by omega)
    rw [Nat.pow_succ] at h4
    refine ⟨?_, ?_⟩
    · rw [pairs, Nat.add_mul_mod_self_left, Nat.mod_eq_of_lt h]
      omega
    · rw [pairs, Nat.add_mul_div_left _ _ (pos _), Nat.div_eq_of_lt h, Nat.zero_add]
      exact pairs_small w hw n _
theorem small_step (w x : Nat) (hw : 1 ≤ w) (h0 : x % 2 ^ w < 2 ^ (w - 1)) (h1 : x / 2 ^ w % 2 ^ w < 2 ^ (w - 1)) (h2 : x / 2 ^ w / 2 ^ w % 2 ^ w < 2 ^ (w - 1)) :
    (x / 2 ^ w + x) % 2 ^ w = x % 2 ^ w + x / 2 ^ w % 2 ^ w ∧ (x / 2 ^ w + x) / 2 ^ (2 * w) = x / 2 ^ (2 * w) / 2 ^ w + x / 2 ^ (2 * w) := by
  have hb : 2 ^ w = 2 * 2 ^ (w - 1) := by
    obtain ⟨v, rfl⟩ : ∃ v, w = v + 1 := ⟨w - 1, by omega⟩
    rw [Nat.pow_succ, Nat.mul_comm]
    rfl
  have hp := pos w
  generalize hB : 2 ^ (w - 1) = B at *
  generalize hW : 2 ^ w = W at *
  rw [two_pow_two, hW]
  obtain ⟨q, hq⟩ : ∃ q, q = x / W / W := ⟨_, rfl⟩
  have e0 := Nat.div_add_mod x W
  have e1 := Nat.div_add_mod (x / W) W
  have e2 := Nat.div_add_mod q W
  rw [← hq] at e1 h2
  have eq : x / (W * W) = q := by rw [hq, Nat.div_div_eq_div_mul]
  rw [eq]
  generalize x % W = a at *
  generalize hy : x / W = y at *
  generalize y % W = b at *
  generalize q % W = c at *
  have hx : y + x = (a + b) + W * ((b + c) + W * (q / W + q)) := by
    have e3 : W * q = W * c + W * (W * (q / W)) := by rw [← Nat.mul_add, Nat.add_comm c, e2]
    rw [← e0, ← e1]
    simp only [Nat.mul_add]
    omega
  have hab : a + b < W := by omega
  have hbc : b + c < W := by omega
  refine ⟨?_, ?_⟩
  · rw [hx, Nat.add_mul_mod_self_left, Nat.mod_eq_of_lt hab]
  · rw [hx, ← Nat.div_div_eq_div_mul, Nat.add_mul_div_left _ _ hp, Nat.div_eq_of_lt hab, Nat.zero_add, Nat.add_mul_div_left _ _ hp, Nat.div_eq_of_lt hbc, Nat.zero_add]
theorem small_get (w : Nat) : ∀ (n x : Nat), small w n x → x % 2 ^ w < 2 ^ (w - 1)
  | 0, x, h => by
    obtain rfl : x = 0 := h
    simp [pos]
  | n + 1, x, h => h.1
theorem small_next (w : Nat) : ∀ (n x : Nat), small w n x → small w (n - 1) (x / 2 ^ w)
  | 0, x, h => by
    obtain rfl : x = 0 := h
    simp [small]
  | n + 1, x, h => h.2
theorem pairs_sum_and (w : Nat) (hw : 1 ≤ w) : ∀ (n x : Nat), small w (2 * n) x → (x / 2 ^ w + x) &&& mask w n = pairs w n x
  | 0, x, _ => by simp [mask, pairs]
  | n + 1, x, h => by
    have h1 := small_next w _ _ h
    have h2 := small_next w _ _ h1
    obtain ⟨e1, e2⟩ := small_step w x hw (small_get w _ _ h) (small_get w _ _ h1) (small_get w _ _ h2)
    rw [and_mask, e1, e2, pairs, pairs_sum_and w hw n (x / 2 ^ (2 * w)) (by rw [← div_two]; exact h2)]
theorem pop_dsum : ∀ (n x : Nat), popAux n x = dsum 1 n x
  | 0, x => rfl
  | n + 1, x => by rw [popAux, dsum, pop_dsum n]
theorem pop_le : ∀ (n x : Nat), popAux n x ≤ n
  | 0, x => Nat.le_refl _
  | n + 1, x => by
    rw [popAux]
    have := pop_le n (x / 2)
    omega
theorem nest_div (a b : Nat) (ha : a < 256) : (a + 256 * b) / 256 = b := by omega
/-- eight digits in the base 256 -/
def nest (e0 e1 e2 e3 e4 e5 e6 e7 : Nat) : Nat := e0 + 256 * (e1 + 256 * (e2 + 256 * (e3 + 256 * (e4 + 256 * (e5 + 256 * (e6 + 256 * e7))))))
theorem nest_add (a0 a1 a2 a3 a4 a5 a6 a7 b0 b1 b2 b3 b4 b5 b6 b7 : Nat) : nest a0 a1 a2 a3 a4 a5 a6 a7 + nest b0 b1 b2 b3 b4 b5 b6 b7 = nest (b0 + a0) (b1 + a1) (b2 + a2) (b3 + a3) (b4 + a4) (b5 + a5) (b6 + a6) (b7 + a7) := by
  simp only [nest, Nat.mul_add]
  omega
theorem nest_div1 (e0 e1 e2 e3 e4 e5 e6 e7 : Nat) (h : e0 < 256) : nest e0 e1 e2 e3 e4 e5 e6 e7 / 256 = nest e1 e2 e3 e4 e5 e6 e7 0 := by
  unfold nest
  rw [nest_div _ _ h, Nat.mul_zero, Nat.add_zero]
theorem nest_lt (e0 e1 e2 e3 e4 e5 e6 e7 : Nat) (h0 : e0 < 256) (h1 : e1 < 256) (h2 : e2 < 256) (h3 : e3 < 256) (h4 : e4 < 256) (h5 : e5 < 256) (h6 : e6 < 256) (h7 : e7 < 256) : nest e0 e1 e2 e3 e4 e5 e6 e7 < 18446744073709551616 := by
  unfold nest
  omega
theorem nest_lt63 (e0 e1 e2 e3 e4 e5 e6 e7 : Nat) (h0 : e0 ≤ 64) (h1 : e1 ≤ 64) (h2 : e2 ≤ 64) (h3 : e3 ≤ 64) (h4 : e4 ≤ 64) (h5 : e5 ≤ 64) (h6 : e6 ≤ 64) (h7 : e7 ≤ 64) : nest e0 e1 e2 e3 e4 e5 e6 e7 < 9223372036854775808 := by
  unfold nest
  omega
theorem nest_mod (e0 e1 e2 e3 e4 e5 e6 e7 : Nat) (h : e0 < 128) : nest e0 e1 e2 e3 e4 e5 e6 e7 % 128 = e0 := by
  unfold nest
  generalize e1 + 256 * (e2 + 256 * (e3 + 256 * (e4 + 256 * (e5 + 256 * (e6 + 256 * e7))))) = z
  omega
theorem nest_of (y : Nat) (hy : y < 18446744073709551616) : ∃ e0 e1 e2 e3 e4 e5 e6 e7, y = nest e0 e1 e2 e3 e4 e5 e6 e7 ∧ dsum 8 8 y = e0 + (e1 + (e2 + (e3 + (e4 + (e5 + (e6 + (e7 + 0))))))) := by
  refine ⟨y % 256, y / 256 % 256, y / 256 / 256 % 256, y / 256 / 256 / 256 % 256, y / 256 / 256 / 256 / 256 % 256, y / 256 / 256 / 256 / 256 / 256 % 256, y / 256 / 256 / 256 / 256 / 256 / 256 % 256, y / 256 / 256 / 256 / 256 / 256 / 256 / 256 % 256, ?_, rfl⟩
  have h7 : y / 256 / 256 / 256 / 256 / 256 / 256 / 256 % 256 = y / 256 / 256 / 256 / 256 / 256 / 256 / 256 := by
    apply Nat.mod_eq_of_lt
    rw [Nat.div_div_eq_div_mul, Nat.div_div_eq_div_mul, Nat.div_div_eq_div_mul, Nat.div_div_eq_div_mul, Nat.div_div_eq_div_mul, Nat.div_div_eq_div_mul]
    exact Nat.div_lt_of_lt_mul hy
  unfold nest
  rw [h7, Nat.mod_add_div, Nat.mod_add_div, Nat.mod_add_div, Nat.mod_add_div, Nat.mod_add_div, Nat.mod_add_div, Nat.mod_add_div]
/-- the last three additions -/
theorem last_sum (y t1 t2 t3 : Nat) (hy : y < 18446744073709551616) (hs : dsum 8 8 y ≤ 64) (h1 : t1 = y / 256 + y) (h2 : t2 = t1 / 65536 + t1) (h3 : t3 = t2 / 4294967296 + t2) : t3 % 128 = dsum 8 8 y ∧ t1 < 18446744073709551616 ∧ t2 < 18446744073709551616 ∧ t3 < 9223372036854775808 := by
  obtain ⟨e0, e1, e2, e3, e4, e5, e6, e7, he, hd⟩ := nest_of y hy
  rw [hd] at hs ⊢
  clear hd
  have q1 : t1 = nest (e0 + e1) (e1 + e2) (e2 + e3) (e3 + e4) (e4 + e5) (e5 + e6) (e6 + e7) (e7 + 0) := by
    rw [h1, he, nest_div1 _ _ _ _ _ _ _ _ (by omega), nest_add]
  clear h1 he hy
  have q2 : t2 = nest (e0 + e1 + (e2 + e3)) (e1 + e2 + (e3 + e4)) (e2 + e3 + (e4 + e5)) (e3 + e4 + (e5 + e6)) (e4 + e5 + (e6 + e7)) (e5 + e6 + (e7 + 0)) (e6 + e7 + 0) (e7 + 0 + 0) := by
    rw [h2, q1, show (65536 : Nat) = 256 * 256 from rfl, ← Nat.div_div_eq_div_mul, nest_div1 _ _ _ _ _ _ _ _ (by omega), nest_div1 _ _ _ _ _ _ _ _ (by omega), nest_add]
  clear h2
  have q3 : t3 = nest (e0 + e1 + (e2 + e3) + (e4 + e5 + (e6 + e7))) (e1 + e2 + (e3 + e4) + (e5 + e6 + (e7 + 0))) (e2 + e3 + (e4 + e5) + (e6 + e7 + 0)) (e3 + e4 + (e5 + e6) + (e7 + 0 + 0)) (e4 + e5 + (e6 + e7) + 0) (e5 + e6 + (e7 + 0) + 0) (e6 + e7 + 0 + 0) (e7 + 0 + 0 + 0) := by
    rw [h3, q2, show (4294967296 : Nat) = 256 * 256 * 256 * 256 from rfl, ← Nat.div_div_eq_div_mul, ← Nat.div_div_eq_div_mul, ← Nat.div_div_eq_div_mul, nest_div1 _ _ _ _ _ _ _ _ (by omega), nest_div1 _ _ _ _ _ _ _ _ (by omega), nest_div1 _ _ _ _ _ _ _ _ (by omega), nest_div1 _ _ _ _ _ _ _ _ (by omega), nest_add]
  clear h3
  refine ⟨?_, ?_, ?_, ?_⟩
  · rw [q3, nest_mod _ _ _ _ _ _ _ _ (by omega)]
    omega
  · rw [q1]
    exact nest_lt _ _ _ _ _ _ _ _ (by omega) (by omega) (by omega) (by omega) (by omega) (by omega) (by omega) (by omega)
  · rw [q2]
    exact nest_lt _ _ _ _ _ _ _ _ (by omega) (by omega) (by omega) (by omega) (by omega) (by omega) (by omega) (by omega)
  · rw [q3]
    exact nest_lt63 _ _ _ _ _ _ _ _ (by omega) (by omega) (by omega) (by omega) (by omega) (by omega) (by omega) (by omega)
theorem and64 (a b : Nat) (ha : a < 18446744073709551616) (hb : b < 18446744073709551616) : Go.bits .and .u64 (a : Int) (b : Int) = ((a &&& b : Nat) : Int) :=
  bits_nat .u64 64 (by decide) (fun n h0 h1 => by rw [IntKind.wrap_u64]; omega) a b (by simpa using ha) (by simpa using hb) |>.1
theorem wrap_nat (a : Nat) (ha : a < 18446744073709551616) : IntKind.u64.wrap (a : Int) = (a : Int) := by
  rw [IntKind.wrap_u64]
  omega
/-- one of the first two steps -/
theorem step_pairs (w n m : Nat) (hw : 1 ≤ w) (hn : 2 * w * n = 64) (hm : mask w n = m) (hm2 : m < 18446744073709551616) (d : Int) (hd : d = ((2 ^ w : Nat) : Int)) (x : Nat) (hx : x < 18446744073709551616) :
    IntKind.u64.wrap (Go.bits .and .u64 ((x : Int) / d) (m : Int) + Go.bits .and .u64 (x : Int) (m : Int)) = ((pairs w n x : Nat) : Int) := by
  have hl := pairs_lt w hw n x
  rw [hn] at hl
  have hxd : x / 2 ^ w < 18446744073709551616 := Nat.lt_of_le_of_lt (Nat.div_le_self _ _) hx
  rw [hd, ← Int.natCast_ediv, and64 _ _ hxd hm2, and64 _ _ hx hm2, ← Int.natCast_add, ← hm, pairs_and, wrap_nat _ hl]
theorem step_third (y : Nat) (hy : small 4 16 y) (hy2 : y + y / 16 < 18446744073709551616) : Go.bits .and .u64 (IntKind.u64.wrap ((y : Int) / 16 + (y : Int))) 1085102592571150095 = ((pairs 4 8 y : Nat) : Int) := by
  rw [show ((y : Int) / 16 + (y : Int)) = ((y / 16 + y : Nat) : Int) by omega, wrap_nat _ (by omega), show (1085102592571150095 : Int) = ((1085102592571150095 : Nat) : Int) from rfl, and64 _ _ (by omega) (by decide)]
  have := pairs_sum_and 4 (by decide) 8 y hy
  rw [show mask 4 8 = 1085102592571150095 from rfl, show (2 : Nat) ^ 4 = 16 from rfl] at this
  rw [this]
theorem small_bound : ∀ (n y : Nat), small 4 n y → 2 * y < 16 ^ n
  | 0, y, h => by
    obtain rfl : y = 0 := h
    simp
  | n + 1, y, h => by
    obtain ⟨h1, h2⟩ := h
    have := small_bound n _ h2
    rw [Nat.pow_succ]
    simp only [show (2 : Nat) ^ 4 = 16 from rfl, show (2 : Nat) ^ (4 - 1) = 8 from rfl] at *
    omega
theorem ones64 (x : Nat) (hx : x < 18446744073709551616) : F.bits_OnesCount64.f (x : Int) = some ((popAux 64 x : Nat) : Int) := by
  have s1 := step_pairs 1 32 6148914691236517205 (by decide) rfl (by decide) (by decide) 2 rfl x hx
  have l1 := pairs_lt 1 (by decide) 32 x
  obtain ⟨x1, hx1⟩ : ∃ x1, x1 = pairs 1 32 x := ⟨_, rfl⟩
  rw [← hx1] at s1 l1
  have l1' : x1 < 18446744073709551616 := l1
  have s2 := step_pairs 2 16 3689348814741910323 (by decide) rfl (by decide) (by decide) 4 rfl x1 l1'
  obtain ⟨x2, hx2⟩ : ∃ x2, x2 = pairs 2 16 x1 := ⟨_, rfl⟩
  have m2 : small 4 16 x2 := by rw [hx2]; exact pairs_small 2 (by decide) 16 x1
  have b2 := small_bound 16 x2 m2
  rw [← hx2] at s2
  have s3 := step_third x2 m2 (by omega)
  obtain ⟨x3, hx3⟩ : ∃ x3, x3 = pairs 4 8 x2 := ⟨_, rfl⟩
  have l3 := pairs_lt 4 (by decide) 8 x2
  rw [← hx3] at s3 l3
  have l3' : x3 < 18446744073709551616 := l3
  have d3 : dsum 8 8 x3 = popAux 64 x := by
    rw [hx3, pairs_sum 4 (by decide) 8, hx2, pairs_sum 2 (by decide) 16, hx1, pairs_sum 1 (by decide) 32, pop_dsum]
  have hle : dsum 8 8 x3 ≤ 64 := by rw [d3]; exact pop_le 64 x
  obtain ⟨r1, r2, r3, r4⟩ := last_sum x3 _ _ _ l3' hle rfl rfl rfl
  unfold F.bits_OnesCount64.f
  simp only [show ((6148914691236517205 : Nat) : Int) = 6148914691236517205 from rfl] at s1
  simp only [show ((3689348814741910323 : Nat) : Int) = 3689348814741910323 from rfl] at s2
  rw [s1, s2, s3]
  rw [show ((x3 : Int) + (x3 : Int) / 256) = ((x3 / 256 + x3 : Nat) : Int) by omega, wrap_nat _ r2]
  generalize x3 / 256 + x3 = t1 at *
  rw [show ((t1 : Int) + (t1 : Int) / 65536) = ((t1 / 65536 + t1 : Nat) : Int) by omega, wrap_nat _ r3]
  generalize t1 / 65536 + t1 = t2 at *
  rw [show ((t2 : Int) + (t2 : Int) / 4294967296) = ((t2 / 4294967296 + t2 : Nat) : Int) by omega, wrap_nat _ (by omega)]
  generalize t2 / 4294967296 + t2 = t3 at *
  rw [← d3, ← r1]
  have hw : wrap64 (t3 : Int) = (t3 : Int) := by
    unfold wrap64
    omega
  rw [hw, show (127 : Int) = ((127 : Nat) : Int) from rfl, (bits_nat .i64 63 (by decide) (fun n h0 h1 => by rw [IntKind.wrap_i64]; omega) t3 127 (by simpa using r4) (by decide)).1, show (127 : Nat) = 2 ^ 7 - 1 from rfl, Nat.and_two_pow_sub_one_eq_mod]
end Pop
def bits_OnesCount.f (a0 : Int) : Option Int := if 0 ≤ a0 ∧ a0 ≤ 18446744073709551615 then some ((Pop.popAux 64 a0.toNat : Nat) : Int) else none
set_option maxRecDepth 100000 in
theorem ones_calls (a0 : Int) (w : World) (h0 : 0 ≤ a0) (h1 : a0 ≤ 18446744073709551615) :
    Calls Tryd.prog 66 #[.int .u64 a0] w fun e w' => e = .returned (.int .i64 ((Pop.popAux 64 a0.toNat : Nat) : Int)) ∧ ∃ n, w' = w.drewN n := by
  have hf : F.bits_OnesCount64.f a0 = some ((Pop.popAux 64 a0.toNat : Nat) : Int) := by
    have := Pop.ones64 a0.toNat (by omega)
    rwa [Int.toNat_of_nonneg h0] at this
  have HF := Lib.hid hf
  clear hf
  go_enter Tryd.func66, Tryd.ntmps66
  go_wp2_with fail
  refine (F.bits_OnesCount64.calls a0 _ _ HF.out).mono ?_
  rintro e w' ⟨rfl, ⟨n, rfl⟩⟩
  go_wp2
  go_ret
  exact ⟨rfl, n, rfl⟩
end Go.Proofs.YtopacnaiedlaaaaDoor
end
section
/-
  span.Check: may a span be?
-/
namespace Go.Proofs.YtopacnaiedlaaaaDoor
open Go.RowKit Go.Proofs.YtopacnaiedlaaaaDoorW.PrintWords Go.Proofs.YtopacnaiedlaaaaDoorW.PrintLast Go.Proofs.YtopacnaiedlaaaaDoorW.PrintMore
set_option linter.unusedVariables false
set_option linter.unusedSimpArgs false
def wholeB (l : List ByteArray) : Bool := l.all fun s => decide (s.size = 32)
def onesOf (a : Int) : Int := ((Pop.popAux 64 a.toNat : Nat) : Int)
def spanOk (a : Int) (l : List ByteArray) : Bool := decide (0 ≤ a) && decide (a ≤ 1099511627776) && decide ((l.length : Int) = onesOf a) && wholeB l
def span_Check.f (a0_0 : Int) (l0_1 : List ByteArray) : Option Int := some (if spanOk a0_0 l0_1 = true then 0 else 1)
theorem isHash_calls (s : ByteArray) (w : World) (b : Bool) (hb : ((s.size : Int) == 32) = b) :
    Calls Tryd.prog 69 #[.string s] w fun e w' => e = .returned (.bool b) ∧ w = w' := by
  go_enter Tryd.func69, Tryd.ntmps69
  go_wp2
  go_ret
  exact ⟨rfl, rfl⟩
theorem check1_calls (s : ByteArray) (w : World) (b : Bool) (hb : ((s.size : Int) == 32) = !b) :
    Calls Tryd.prog 68 #[.string s] w fun e w' => e = .returned (.bool b) ∧ w = w' := by
  have HB := Lib.hid hb
  clear hb
  go_enter Tryd.func68, Tryd.ntmps68
  go_wp2_with fail
  refine (isHash_calls s _ (!b) HB.out).mono ?_
  rintro e w' ⟨rfl, rfl⟩
  go_wp2
  go_ret
  exact ⟨by simp, rfl⟩
def IdxPost (l : List ByteArray) (w : World) (e : Ending) (w' : World) : Prop := ∃ i : Int, e = .returned (.int .i64 i) ∧ (decide (0 ≤ i) = !(wholeB l)) ∧ w = w'
theorem wholeB_of (l : List ByteArray) (h : ∀ j, j < l.length → (rdOf ByteArray.empty l (j : Int)).size = 32) : wholeB l = true := by
  unfold wholeB
  rw [List.all_eq_true]
  intro x hx
  obtain ⟨j, hj, rfl⟩ := List.getElem_of_mem hx
  have := h j hj
  simp only [rdOf, Int.toNat_natCast] at this
  rw [List.getD_eq_getElem?_getD, List.getElem?_eq_getElem hj] at this
  simpa using this
theorem wholeB_not (l : List ByteArray) (j : Nat) (hj : j < l.length) (h : ¬ (rdOf ByteArray.empty l (j : Int)).size = 32) : wholeB l = false := by
  rw [Bool.eq_false_iff]
  intro hw
  unfold wholeB at hw
  rw [List.all_eq_true] at hw
  have := hw l[j] (List.getElem_mem hj)
  apply h
  simp only [rdOf, Int.toNat_natCast]
  rw [List.getD_eq_getElem?_getD, List.getElem?_eq_getElem hj]
  simpa using this
set_option maxHeartbeats 1000000 in
set_option maxRecDepth 100000 in
theorem idx_calls (A0 : Option Addr) (c0 : Nat) (l0 : List ByteArray) (w : World) (hr0 : Kd.C Kd.string w A0 l0.length l0) :
    Calls Tryd.prog 76 #[.slice A0 l0.length c0, .func (.func 68) #[] #[]] w (IdxPost l0 w) := by
  have HR0 := Lib.hid hr0
  have HL := Lib.hid (Kd.reads_of_C (d := ByteArray.empty) hr0).2.1
  clear hr0
  go_enter Tryd.func76, Tryd.ntmps76
  go_wp2
  go_loop [8] (fun i => ∃ k : Nat, k ≤ l0.length ∧ i = .int .i64 k ∧ Hid (∀ j, j < k → (rdOf ByteArray.empty l0 (j : Int)).size = 32)) (fun i => l0.length - (intOf i).toNat)
  case atStart => exact ⟨0, Nat.zero_le _, rfl, Lib.hid (fun j hj => absurd hj (Nat.not_lt_zero _))⟩
  case round =>
    obtain ⟨k, hk, rfl, HP⟩ := hrel
    have hlen := HL.out
    by_cases hlt : k < l0.length
    · have p1 : 0 ≤ (k : Int) := by omega
      have q1 : (k : Int) < l0.length := by omega
      obtain ⟨ad, rfl, hcell⟩ := Kd.at_string HR0.out k p1 q1
      simp only [Int.toNat_natCast] at hcell
      by_cases h32 : (rdOf ByteArray.empty l0 (k : Int)).size = 32
      · have H32 := Lib.hid h32
        clear h32
        go_wp2_with fail
        refine (check1_calls _ _ false (by rw [H32.out]; rfl)).mono ?_
        rintro e w' ⟨rfl, rfl⟩
        go_wp2
        go_round
        case rel =>
          exact ⟨k + 1, by omega, by go_num, Lib.hid (fun j hj => by
            rcases Nat.lt_or_ge j k with hj2 | hj2
            · exact HP.out j hj2
            · obtain rfl : j = k := by omega
              exact H32.out)⟩
        case measure => simp [intOf]; omega
      · have H32 := Lib.hid h32
        clear h32
        go_wp2_with fail
        refine (check1_calls _ _ true (by have := H32.out; simp; omega)).mono ?_
        rintro e w' ⟨rfl, rfl⟩
        go_wp2
        go_ret
        exact ⟨(k : Int), rfl, by rw [wholeB_not _ k hlt H32.out]; simp, rfl⟩
    · obtain rfl : k = l0.length := by omega
      go_wp2
      go_ret
      exact ⟨-1, rfl, by rw [wholeB_of _ HP.out]; rfl, rfl⟩
set_option maxRecDepth 100000 in
theorem contains_calls (A0 : Option Addr) (c0 : Nat) (l0 : List ByteArray) (w : World) (hr0 : Kd.C Kd.string w A0 l0.length l0) :
    Calls Tryd.prog 67 #[.slice A0 l0.length c0, .func (.func 68) #[] #[]] w fun e w' => e = .returned (.bool (!(wholeB l0))) ∧ w = w' := by
  have HR0 := Lib.hid hr0
  clear hr0
  go_enter Tryd.func67, Tryd.ntmps67
  go_wp2_with fail
  refine (idx_calls A0 c0 l0 _ HR0.out).mono ?_
  rintro e w' ⟨i, rfl, hi, rfl⟩
  have HI := Lib.hid hi
  clear hi
  go_wp2
  go_ret
  exact ⟨congrArg (fun b => Ending.returned (Value.bool b)) HI.out, rfl⟩
theorem spanOk_iff (a : Int) (l : List ByteArray) : spanOk a l = true ↔ 0 ≤ a ∧ a ≤ 1099511627776 ∧ (l.length : Int) = onesOf a ∧ wholeB l = true := by
  simp [spanOk, and_assoc]
theorem span_no {a : Int} {l : List ByteArray} (h : ¬ (0 ≤ a ∧ a ≤ 1099511627776 ∧ (l.length : Int) = onesOf a ∧ wholeB l = true)) : (if spanOk a l = true then (0 : Int) else 1) = 1 := if_neg (fun e => h ((spanOk_iff a l).1 e))
theorem span_yes {a : Int} {l : List ByteArray} (h : 0 ≤ a ∧ a ≤ 1099511627776 ∧ (l.length : Int) = onesOf a ∧ wholeB l = true) : (if spanOk a l = true then (0 : Int) else 1) = 0 := if_pos ((spanOk_iff a l).2 h)
set_option maxHeartbeats 4000000 in
set_option maxRecDepth 100000 in
theorem span_Check.calls (a0_0 : Int) (A0_1 : Option Addr) (c0_1 : Nat) (l0_1 : List ByteArray) (r : Int) (w : World) (hr0_1 : Kd.C Kd.string w A0_1 l0_1.length l0_1) (hc0_1 : l0_1.length ≤ c0_1) (h : span_Check.f a0_0 l0_1 = some r) :
    Calls Tryd.prog 59 #[.agg #[.int .i64 a0_0, .slice A0_1 l0_1.length c0_1]] w fun e w' => e = .returned (.int .i64 r) ∧ Below w.heap.size w w' := by
  obtain rfl := Option.some.inj h
  clear h
  have HR := Lib.hid hr0_1
  clear hr0_1
  by_cases h0 : a0_0 < 0
  · rw [span_no (fun e => by omega)]
    have d0 : decide (a0_0 < 0) = true := by simpa using h0
    clear h0
    go_enter Tryd.func59, Tryd.ntmps59
    go_wp2
    go_quiet (fail)
    go_wp2
    go_ret
    exact ⟨rfl, pw_below_drewN ((Below.refl _ _).alloc (Nat.le_refl _) _) _⟩
  · by_cases h1 : 1099511627776 < a0_0
    · rw [span_no (fun e => by omega)]
      have d0 : decide (a0_0 < 0) = false := by simpa using h0
      have d1 : decide (1099511627776 < a0_0) = true := by simpa using h1
      clear h0 h1
      go_enter Tryd.func59, Tryd.ntmps59
      go_wp2
      go_quiet (fail)
      go_wp2
      go_ret
      exact ⟨rfl, pw_below_drewN ((Below.refl _ _).alloc (Nat.le_refl _) _) _⟩
    · have d0 : decide (a0_0 < 0) = false := by simpa using h0
      have d1 : decide (1099511627776 < a0_0) = false := by simpa using h1
      have p0 : 0 ≤ a0_0 := by omega
      have p1 : a0_0 ≤ 1099511627776 := by omega
      clear h0 h1
      obtain ⟨q, hq⟩ : ∃ q, q = onesOf a0_0 := ⟨_, rfl⟩
      have HC : Hid (∀ (w : World) (n : Nat), Calls Tryd.prog 66 #[.int .u64 a0_0] (w.drewN n) fun e w' => e = .returned (.int .i64 q) ∧ ∃ m, w' = w.drewN m) := Lib.hid (fun w n => (ones_calls a0_0 (w.drewN n) p0 (by omega)).mono fun e w' ⟨h1, m, h2⟩ => ⟨by rw [h1, hq]; rfl, n + m, by rw [h2, World.drewN_drewN]⟩)
      by_cases hl : (l0_1.length : Int) = q
      · have dl : (((l0_1.length : Int)) != q) = false := by simpa using hl
        by_cases hw : wholeB l0_1 = true
        · rw [span_yes ⟨p0, p1, hl.trans hq, hw⟩]
          clear hl hq
          go_enter Tryd.func59, Tryd.ntmps59
          go_wp2
          go_quiet ((go_at_call 66; exact HC.out _ _))
          go_wp2_with fail
          refine (contains_calls A0_1 c0_1 l0_1 _ (Kd.C_drewN (Kd.C_alloc HR.out _) _)).mono ?_
          rintro e w' ⟨rfl, rfl⟩
          go_wp2
          go_ret
          exact ⟨rfl, pw_below_drewN ((Below.refl _ _).alloc (Nat.le_refl _) _) _⟩
        · rw [span_no (fun e => hw e.2.2.2)]
          have hw' : wholeB l0_1 = false := by simpa using hw
          clear hl hq hw
          go_enter Tryd.func59, Tryd.ntmps59
          go_wp2
          go_quiet ((go_at_call 66; exact HC.out _ _))
          go_wp2_with fail
          refine (contains_calls A0_1 c0_1 l0_1 _ (Kd.C_drewN (Kd.C_alloc HR.out _) _)).mono ?_
          rintro e w' ⟨rfl, rfl⟩
          go_wp2
          go_ret
          exact ⟨rfl, pw_below_drewN ((Below.refl _ _).alloc (Nat.le_refl _) _) _⟩
      · have dl : (((l0_1.length : Int)) != q) = true := by simpa using hl
        rw [span_no (fun e => hl (by rw [hq]; exact e.2.2.1))]
        clear hl hq
        go_enter Tryd.func59, Tryd.ntmps59
        go_wp2
        go_quiet ((go_at_call 66; exact HC.out _ _))
        go_wp2
        go_ret
        exact ⟨rfl, pw_below_drewN ((Below.refl _ _).alloc (Nat.le_refl _) _) _⟩
end Go.Proofs.YtopacnaiedlaaaaDoor
end
section
-- WRITTEN BY A PROGRAM OF THIS PLACE (wip/tools/pp.sh: the print, turned for functions proved by hand). Lean checks it.
namespace Go.Proofs.YtopacnaiedlaaaaDoor.F
open Go.RowKit Go.Proofs.YtopacnaiedlaaaaDoorW.PrintWords Go.Proofs.YtopacnaiedlaaaaDoorW.PrintLast Go.Proofs.YtopacnaiedlaaaaDoorW.PrintMore
attribute [local go_sem] max2_int min2_int max_two min_two max_three min_three max_four min_four   -- for this text's walks alone
set_option linter.unusedVariables false
set_option linter.unusedSimpArgs false
/-! ### sawyerlaw17_leaves: function 23 -/
def sawyerlaw17_leaves.l0 : Nat → List (List Int) → List ByteArray → Int → Option (List ByteArray)
  | 0, _, _, _ => none
  | k + 1, x0, x3, x4 => if x4 < (x0.length : Int) then (if x4 < 60 then (if 0 ≤ x4 then ((hash_Leaf.f (rd_L8 x0 x4)).bind fun t424 => (if x3.length < 8796093022208 then (sawyerlaw17_leaves.l0 k x0 (x3 ++ [t424]) (wrap64 (x4 + 1))) else (none))) else (none)) else (some x3)) else (some x3)
def sawyerlaw17_leaves.f (k : Nat) (l0 : List (List Int)) : Option (List ByteArray) := sawyerlaw17_leaves.l0 k l0 ([] : List ByteArray) 0
set_option maxHeartbeats 8000000 in
set_option maxRecDepth 100000 in
theorem sawyerlaw17_leaves.calls (k : Nat) (A0 : Option Addr) (c0 : Nat) (l0 : List (List Int)) (r : List ByteArray) (w : World) (hr0 : Kd.C (Kd.slice 5 (Kd.int .u8)) w A0 l0.length l0) (hc0 : l0.length ≤ c0) (h : sawyerlaw17_leaves.f k l0 = some r) :
    Calls Tryd.prog 23 #[.slice A0 l0.length c0] w fun e w' => ∃ v0_ : Value, e = .returned (v0_) ∧ Kd.R Kd.string 9 w' w.heap.size (fun _ => True) v0_ r ∧ Below w.heap.size w w' := by
  (have HR0 := Aside0.mk hr0); (have HC0 := Aside0.mk hc0); (clear hr0 hc0); (have HB := Aside0.mk (Below.refl w.heap.size w)); (have H : (sawyerlaw17_leaves.l0 k l0 ([] : List ByteArray) 0) = some r := h); (clear h); (have H' := Aside0.mk H); (clear H); (go_enter Tryd.func23, Tryd.ntmps23); (go_wp2); (go_loopg [3, 4] k (fun kq v3 v4 w' => ∃ (x3_1 : List ByteArray) (x4_1 : Int), v4 = .int .i64 x4_1 ∧ Aside0 (sawyerlaw17_leaves.l0 kq l0 x3_1 x4_1 = some r) ∧ Aside0 (kq ≤ k) ∧ Aside0 (Kd.R Kd.string 9 w' w.heap.size (fun _ => True) v3 x3_1) ∧ Aside0 (Below w.heap.size w w')))
  case atStart => exact ⟨(([] : List ByteArray)), (0), (by first | rfl | (simp; done) | (simp [*]; done)), H', ⟨Nat.le_refl _⟩, ⟨by first | exact Kd.R_nil _ _ _ _ _ | exact Kd.N_nil _ _ _ _ _ | exact Kd.V_nil _ _ _ _ _ | exact Kd.Q_nil _ _ _ _ _ | exact Kd.S_nil _ _ _ _ _⟩, ⟨by repeat (first | (with_reducible first | exact HB.out | apply below_alloc | apply pw_below_drewN | apply below_drew1) | exact HB.out)⟩⟩
  case round =>
    (clear H'); (obtain ⟨x3_1, x4_1, rfl, HA, HK1, HO_3, HB⟩ := hrel)
    cases gk with
    | zero => exact absurd HA.out (by simp [sawyerlaw17_leaves.l0])
    | succ k1 =>
      (have H := HA.out); (clear HA); (simp only [sawyerlaw17_leaves.l0] at H); (by_cases c2 : x4_1 < (l0.length : Int))
      · (rw [if_pos c2] at H); (have c2b0 : decide (x4_1 < (l0.length : Int)) = true := decide_eq_true c2); (clear c2); (by_cases c3 : x4_1 < 60)
        · (rw [if_pos c3] at H); (have c3b0 : decide (x4_1 < 60) = true := decide_eq_true c3); (clear c3); (by_cases c4 : 0 ≤ x4_1)
          · (rw [if_pos c4] at H); (have c4b0 : decide (0 ≤ x4_1) = true := decide_eq_true c4); (clear c4); (replace H := Option.bind_eq_some_iff.mp H); (obtain ⟨t424, A50, H⟩ := H); (replace H : (if x3_1.length < 8796093022208 then (sawyerlaw17_leaves.l0 k1 l0 (x3_1 ++ [t424]) (wrap64 (x4_1 + 1))) else (none)) = some r := H); (have A5 := Aside0.mk A50); (clear A50); (by_cases c6 : x3_1.length < 8796093022208)
            · (rw [if_pos c6] at H); (have LMc6 := Aside0.mk c6); (clear c6); (obtain ⟨y425, hy425⟩ : ∃ y_ : List ByteArray, y_ = (x3_1 ++ [t424]) := ⟨_, rfl⟩); (replace H : (sawyerlaw17_leaves.l0 k1 l0 y425 (wrap64 (x4_1 + 1))) = some r := by first | (rw [hy425]; with_reducible exact H) | (have H2_ := (Option.bind_some _ _).symm.trans H; rw [hy425]; with_reducible exact H2_) | (have H2_ := (Option.bind_some _ _).symm.trans H; with_reducible exact H2_) | with_reducible exact H | (rw [hy425]; exact H) | exact H); (have Ny425 := Aside0.mk hy425); (clear hy425); (have H' := Aside0.mk H); (clear H); (have p423 : 0 ≤ (x4_1 : Int) := of_decide_eq_true (by first | (with_reducible assumption) | assumption)); (have q423 : x4_1 < (l0.length : Int) := of_decide_eq_true (by first | (with_reducible assumption) | assumption)); (obtain ⟨ad423, A423_0, c423_0, e423, hx423_0, hl423_0, hi423_0⟩ := at_L8 HR0.out x4_1 p423 q423)
              cases e423
              (replace hx423_0 := (HB.out.cell (World.block_lt_of_cell? w _ hx423_0)).trans hx423_0); (have HR423_0 := Aside0.mk hi423_0); (have HC423_0 := Aside0.mk hl423_0); (clear hi423_0 hl423_0); (replace p423 := eq_true p423); (replace q423 := eq_true q423); (go_wp2_with (first | ((with_reducible refine gate_callee (f := 44) rfl ?_); refine goesL_ (some 20) rfl rfl Tryd.func44 (by kernel_rfl) rfl #[.slice A423_0 (rd_L8 l0 x4_1).length c423_0] rfl (by (try simp only [List.map_toArray, List.map_cons, List.map_nil]); first | done | rfl | (simp only [List.length_drop, List.length_take]; rfl)) ?_; (with_reducible refine (hash_Leaf.calls _ _ (rd_L8 l0 x4_1) t424 _ ?side1 ?side2 A5.out).mono ?_); (case side1 => repeat (first | exact (Kd.C_below HR423_0.out HB.out) | (with_reducible refine Kd.C_alloc ?_ _) | (with_reducible refine Kd.C_drewN ?_ _) | (with_reducible refine Kd.C_drew ?_))); (case side2 => exact HC423_0.out); rintro e w7 ⟨rfl, hb⟩; refine ⟨_, rfl, ?_⟩; have n0_ := Aside0.mk (Kd.R_below (by (with_reducible repeat (first | apply Kd.R_alloc | apply Kd.R_drewN | apply Kd.R_drew)); exact HO_3.out) hb); have n1_ := Aside0.mk (below_step (by repeat (first | (with_reducible first | exact HB.out | apply below_alloc | apply pw_below_drewN | apply below_drew1) | exact HB.out)) hb); clear HO_3; clear HB; have HO_3 := n0_; have HB := n1_; clear n0_ n1_; (try clear hb); (try clear hb2); (try clear hk); (try clear hi)) | ((with_reducible refine gate_builtin (b := .append) (xs := #[.tmp 15, .tmp 21]) rfl ?_); at_builtin; refine Kd.R_append Kd.string (w0 := w) w.heap.size rfl (.tmp 15) (.tmp 21) 47 9 (.string ⟨#[]⟩) 16 rfl Tryd.underlying47 info9 rfl (by decide) (by omega) u3 x3_1 t424 [.string t424] (fun _ => True) (fun _ => False) rfl rfl ?aP (fun _ hk => hk.elim) ?aF ?aO ?aB ?aS ?aL ?_; (case aP => exact rfl); (case aB => exact (by repeat (first | (with_reducible first | exact HB.out | apply below_alloc | apply pw_below_drewN | apply below_drew1) | exact HB.out))); (case aF => exact (fun _ _ => trivial)); (case aO => exact (by (with_reducible repeat (first | apply Kd.R_alloc | apply Kd.R_drewN | apply Kd.R_drew)); exact HO_3.out)); (case aS => exact (below_size (by repeat (first | (with_reducible first | exact HB.out | apply below_alloc | apply pw_below_drewN | apply below_drew1) | exact HB.out)))); (case aL => have := LMc6.out; omega); intro v426 w8 ho hb hg hat; rw [← Ny425.out] at ho; have n0_ := Aside0.mk (hb); have n1_ := Aside0.mk (ho); clear HB; clear HO_3; have HB := n0_; have HO427 := n1_; clear n0_ n1_; clear ho hb hg hat))); (go_roundg k1)
              case measure => have := HK1.out; omega
              case rel => exact ⟨(y425), (wrap64 (x4_1 + 1)), (by first | rfl | (simp; done) | (simp [*]; done)), H', ⟨by have := HK1.out; omega⟩, ⟨by (with_reducible repeat (first | apply Kd.R_alloc | apply Kd.R_drewN | apply Kd.R_drew)); exact HO427.out⟩, ⟨by repeat (first | (with_reducible first | exact HB.out | apply below_alloc | apply pw_below_drewN | apply below_drew1) | exact HB.out)⟩⟩
            focus ((rw [if_neg c6] at H); (exact absurd H (by simp)))
          focus ((rw [if_neg c4] at H); (exact absurd H (by simp)))
        focus ((rw [if_neg c3] at H); (have c3b0 : decide (x4_1 < 60) = false := decide_eq_false c3); (clear c3); (obtain rfl := Option.some.inj H); (go_wp2); (go_ret); (exact ⟨_, by first | rfl | (simp [errW_none, errW_some] <;> rfl) | (simp [*, errW_none, errW_some] <;> rfl), by (with_reducible repeat (first | apply Kd.R_alloc | apply Kd.R_drewN | apply Kd.R_drew)); exact HO_3.out, by repeat (first | (with_reducible first | exact HB.out | apply below_alloc | apply pw_below_drewN | apply below_drew1) | exact HB.out)⟩))
      focus ((rw [if_neg c2] at H); (have c2b0 : decide (x4_1 < (l0.length : Int)) = false := decide_eq_false c2); (clear c2); (obtain rfl := Option.some.inj H); (go_wp2); (go_ret); (exact ⟨_, by first | rfl | (simp [errW_none, errW_some] <;> rfl) | (simp [*, errW_none, errW_some] <;> rfl), by (with_reducible repeat (first | apply Kd.R_alloc | apply Kd.R_drewN | apply Kd.R_drew)); exact HO_3.out, by repeat (first | (with_reducible first | exact HB.out | apply below_alloc | apply pw_below_drewN | apply below_drew1) | exact HB.out)⟩))
end Go.Proofs.YtopacnaiedlaaaaDoor.F
end
