-- JOINED BY A PROGRAM OF THIS PLACE (wip/tools/pack.py) out of: TakeNum
import Derived.WalkMore
import Derived.OwnWalk
import Derived.Test.YtoihdghoopgdfaaX29
section
/-
  code.TakeNum: what it answers.
-/
namespace Go.Proofs.Ytoihdghoopgdfaa
open Go.RowKit Go.Proofs.YtoihdghoopgdfaaW.PrintWords Go.Proofs.YtoihdghoopgdfaaW.PrintLast Go.Proofs.YtoihdghoopgdfaaW.PrintMore
set_option linter.unusedVariables false
set_option linter.unusedSimpArgs false
def tkGo (l : List Int) : Nat → Nat → Int → Int × Nat
  | 0, _, n => (n, 0)
  | f + 1, k, n => if l.length ≤ k then (n, 0) else if l.getD k 0 = 0 ∧ 0 < k then (n, 0) else if l.getD k 0 < 128 then (n + (l.getD k 0 % 128) * ((128 ^ k : Nat) : Int), k + 1) else tkGo l f (k + 1) (n + (l.getD k 0 % 128) * ((128 ^ k : Nat) : Int))
def tkNum (l : List Int) : Int × List Int × Int := if (tkGo l 9 0 0).2 = 0 ∨ (tkGo l 9 0 0).1 > 4611686018427387903 then (0, [], 2) else ((tkGo l 9 0 0).1, l.drop (tkGo l 9 0 0).2, 0)
def code_TakeNum.f (l : List Int) : Option (Int × List Int × Int) := if (∀ x ∈ l, 0 ≤ x ∧ x < 256) ∧ l.length ≤ 140737488355328 then some (tkNum l) else none
theorem tkGo_step (l : List Int) (j : Nat) (x : Int) (hj : j < 9) : tkGo l (9 - j) j x = if l.length ≤ j then (x, 0) else if l.getD j 0 = 0 ∧ 0 < j then (x, 0) else if l.getD j 0 < 128 then (x + (l.getD j 0 % 128) * ((128 ^ j : Nat) : Int), j + 1) else tkGo l (9 - (j + 1)) (j + 1) (x + (l.getD j 0 % 128) * ((128 ^ j : Nat) : Int)) := by
  obtain ⟨d, hd⟩ : ∃ d, 9 - j = d + 1 := ⟨9 - j - 1, by omega⟩
  have hd2 : 9 - (j + 1) = d := by omega
  rw [hd, hd2]
  rfl
theorem and127 (b : Int) : Go.bits .and .u8 b 127 = b % 128 := by
  have h127 : (BitVec.ofInt 8 127).toNat = 2 ^ 7 - 1 := by decide
  have key : (BitVec.ofInt 8 b &&& BitVec.ofInt 8 127).toNat = (b % ((2 ^ 8 : Nat) : Int)).toNat % 2 ^ 7 := by
    rw [BitVec.toNat_and, BitVec.toNat_ofInt, h127, Nat.and_two_pow_sub_one_eq_mod]
  show IntKind.u8.wrap ((BitVec.ofInt 8 b &&& BitVec.ofInt 8 127).toNat : Nat) = b % 128
  rw [key, IntKind.wrap_u8]
  omega
theorem u64_small (n : Int) (h0 : 0 ≤ n) (h1 : n < 18446744073709551616) : IntKind.u64.wrap n = n := by
  rw [IntKind.wrap_u64]; omega
theorem or_pow (x m : Nat) (k : Nat) (hx : x < 2 ^ k) (hb : m * 2 ^ k + x < 18446744073709551616) : Go.bits .or .u64 (x : Int) ((m * 2 ^ k : Nat) : Int) = ((m * 2 ^ k + x : Nat) : Int) := by
  have h1 : x < 18446744073709551616 := by omega
  have h2 : m * 2 ^ k < 18446744073709551616 := by omega
  have key : (BitVec.ofInt 64 (x : Int) ||| BitVec.ofInt 64 ((m * 2 ^ k : Nat) : Int)).toNat = m * 2 ^ k + x := by
    rw [BitVec.toNat_or, BitVec.toNat_ofInt, BitVec.toNat_ofInt]
    have e1 : ((x : Int) % ((2 ^ 64 : Nat) : Int)).toNat = x := by omega
    have e2 : (((m * 2 ^ k : Nat) : Int) % ((2 ^ 64 : Nat) : Int)).toNat = m * 2 ^ k := by omega
    rw [e1, e2, Nat.or_comm, Nat.mul_comm, ← Nat.two_pow_add_eq_or_of_lt hx]
  show IntKind.u64.wrap ((BitVec.ofInt 64 (x : Int) ||| BitVec.ofInt 64 ((m * 2 ^ k : Nat) : Int)).toNat : Nat) = _
  rw [key, u64_small _ (by omega) (by omega)]
theorem tk_or (x b : Int) (j : Nat) (hj : j < 9) (hx0 : 0 ≤ x) (hx1 : x < ((128 ^ j : Nat) : Int)) :
    Go.bits .or .u64 x (IntKind.u64.wrap (IntKind.u64.wrap (Go.bits .and .u8 b 127) * 2 ^ (7 * j))) = x + (b % 128) * ((128 ^ j : Nat) : Int) ∧ 0 ≤ x + (b % 128) * ((128 ^ j : Nat) : Int) ∧ x + (b % 128) * ((128 ^ j : Nat) : Int) < ((128 ^ (j + 1) : Nat) : Int) := by
  obtain ⟨p, hp⟩ : ∃ p : Nat, p = 128 ^ j := ⟨_, rfl⟩
  have hp2 : 2 ^ (7 * j) = p := by rw [hp, Nat.pow_mul]
  have hple : p ≤ 128 ^ 8 := by rw [hp]; exact Nat.pow_le_pow_right (by omega) (by omega)
  obtain ⟨m, hm⟩ : ∃ m : Nat, (m : Int) = b % 128 := ⟨(b % 128).toNat, by omega⟩
  obtain ⟨z, rfl⟩ : ∃ z : Nat, x = (z : Int) := ⟨x.toNat, by omega⟩
  have hm2 : m < 128 := by omega
  rw [← hp] at hx1 ⊢
  have hmp : m * p ≤ 127 * p := Nat.mul_le_mul_right _ (by omega)
  have hz : z < p := by omega
  rw [and127, ← hm, u64_small (m : Int) (by omega) (by omega), show (2 : Int) ^ (7 * j) = (p : Int) by rw [← hp2]; simp, show (m : Int) * (p : Int) = ((m * p : Nat) : Int) by simp, u64_small _ (by omega) (by omega), Nat.pow_succ, ← hp]
  refine ⟨?_, by omega, by omega⟩
  have := or_pow z m (7 * j) (by rw [hp2]; exact hz) (by rw [hp2]; omega)
  rw [hp2] at this
  rw [this]
  omega
set_option maxRecDepth 100000 in
set_option maxHeartbeats 8000000 in
theorem takeNum_walk (A : Option Addr) (c : Nat) (l : List Int) (w : World) (hr : Kd.C (Kd.int .u8) w A l.length l) (hc : l.length ≤ c) (hby : ∀ x ∈ l, 0 ≤ x ∧ x < 256) (hl : l.length ≤ 140737488355328) :
    Calls Try.prog 42 #[.slice A l.length c] w fun e w' => ∃ v1_ : Value, e = .returned (.tuple #[.int .i64 (tkNum l).1, v1_, .int .i64 (tkNum l).2.2]) ∧ Kd.R (Kd.int .u8) 5 w' w.heap.size (fun _ => True) v1_ (tkNum l).2.1 ∧ Below w.heap.size w w' := by
  have HR := Lib.hid hr
  have HL := Lib.hid hl
  have HC := Lib.hid hc
  have HBY := Lib.hid hby
  obtain ⟨n, hn⟩ : ∃ n, n = l.length := ⟨_, rfl⟩
  have HN := Lib.hid hn
  have hnm : (n : Int) ≤ 140737488355328 := by omega
  rw [← hn]
  clear hr hl hc hby hn
  go_enter Try.func42, Try.ntmps42
  go_wp2
  go_step3
  go_wp2
  go_step3
  go_wp2
  go_loopw [5, 6, 11] (fun v u i wr => ∃ (j : Nat) (x : Int), j ≤ n ∧ j ≤ 9 ∧ v = .int .u64 x ∧ u = .int .i64 0 ∧ i = .int .i64 (j : Int) ∧ wr = w ∧ 0 ≤ x ∧ x < ((128 ^ j : Nat) : Int) ∧ tkGo l 9 0 0 = tkGo l (9 - j) j x) (fun _ _ i _ => n - (intOf i).toNat)
  case atStart => exact ⟨0, 0, by omega, by omega, rfl, rfl, rfl, rfl, by omega, by omega, rfl⟩
  case round =>
    obtain ⟨j, x, hj, hj9, rfl, rfl, rfl, rfl, hx0, hx1, hg⟩ := hrel
    have HG := Lib.hid hg
    clear hg
    have fin0 : ∀ y : Int, tkGo l 9 0 0 = (y, 0) → tkNum l = (0, [], 2) := fun y h => by unfold tkNum; rw [h]; simp
    by_cases hlt : j < n
    · obtain ⟨ad, rfl, c2⟩ := Kd.at_int HR.out (j : Int) (by omega) (by have := HN.out; omega)
      have hb := HBY.out (l.getD j 0) (by rw [List.getD_eq_getElem?_getD, List.getElem?_eq_getElem (by have := HN.out; omega)]; exact List.getElem_mem _)
      have hrd : rd l (j : Int) = l.getD j 0 := rfl
      rw [hrd] at c2
      obtain ⟨b, hb_⟩ : ∃ b, b = l.getD j 0 := ⟨_, rfl⟩
      rw [← hb_] at c2 hb
      have HBB := Lib.hid hb_
      clear hb_ hrd
      simp only [Int.toNat_natCast] at c2
      have t1 : decide ((j : Int) < (n : Int)) = true := by simpa using hlt
      have i0 : (0 : Int) ≤ (j : Int) := by omega
      have i1 : (j : Int) < (n : Int) := by omega
      have i2 : j < n := hlt
      by_cases h9 : j = 9
      · have hf := fin0 x (by rw [HG.out, h9]; rfl)
        have c3 : wr.cell? ⟨ad.block, ad.off + 9, none⟩ = some (.int .u8 b) := by rw [h9] at c2; exact c2
        have t2 : ((j : Int) == 9) = true := by simp; omega
        clear fin0 h9
        have HF := Lib.hid hf
        clear hf
        go_wp2
        simp only [Exit.noGoto_ret]
        go_ret3
        rw [HF.out]
        exact ⟨_, rfl, Kd.R_nil _ _ _ _ _, Below.refl _ _⟩
      · have hs := tkGo_step l j x (by omega)
        rw [← HBB.out, if_neg (by have := HN.out; omega)] at hs
        obtain ⟨hv, hy0, hy1⟩ := tk_or x b j (by omega) hx0 hx1
        generalize x + b % 128 * ((128 ^ j : Nat) : Int) = y at *
        have HY := Lib.hid hy1
        have HX := Lib.hid hx1
        have HS := Lib.hid hs
        have HF0 := Lib.hid fin0
        have t2 : ((j : Int) == 9) = false := by simp; omega
        have i3 : ¬ (j : Int) = 9 := by omega
        clear hs hy1 hx1 fin0
        by_cases hz : b = 0 ∧ 0 < j
        · have HF := Lib.hid (HF0.out x (by rw [HG.out, HS.out, if_pos hz]))
          obtain ⟨rfl, hz2⟩ := hz
          have t4 : decide (0 < (j : Int)) = true := by simp; omega
          clear HF0 HS HY hv
          go_wp2
          simp only [Exit.noGoto_ret]
          go_ret3
          rw [HF.out]
          exact ⟨_, rfl, Kd.R_nil _ _ _ _ _, Below.refl _ _⟩
        · by_cases h128 : b < 128
          · have HS2 := Lib.hid (by have := HS.out; rw [if_neg hz, if_pos h128] at this; exact HG.out.trans this : tkGo l 9 0 0 = (y, j + 1))
            have t5 : decide (b < 128) = true := by simp; omega
            have t6 : ((j : Int) + 1 == 0) = false := by simp; omega
            have t3 : (b == 0) = false ∨ ((b == 0) = true ∧ decide (0 < (j : Int)) = false ∧ decide (0 < j) = false) := by
              by_cases hb0 : b = 0
              · exact .inr ⟨by simp [hb0], by simp; omega, by simp; omega⟩
              · exact .inl (by simp [hb0])
            clear hz HS HX
            by_cases hm : y > 4611686018427387903
            · have HF := Lib.hid (show tkNum l = (0, [], 2) by unfold tkNum; rw [HS2.out, if_pos (.inr hm)])
              have t7 : decide (4611686018427387903 < y) = true := by simpa using hm
              clear HS2 HF0 HY
              rcases t3 with t3 | ⟨t3, t4, t4n⟩
              all_goals
                go_wp2
                simp only [Exit.noGoto_ret]
                go_ret3
                rw [HF.out]
                exact ⟨_, rfl, Kd.R_nil _ _ _ _ _, Below.refl _ _⟩
            · have HF := Lib.hid (show tkNum l = (y, l.drop (j + 1), 0) by unfold tkNum; rw [HS2.out, if_neg (by rintro (h | h) <;> omega)])
              have t7 : decide (4611686018427387903 < y) = false := by simpa using hm
              have i4 : (j : Int) + 1 ≤ (n : Int) := by omega
              have hd := Kd.C_drop HR.out (m := j + 1) (by have := HN.out; omega) HC.out
              rw [show (Kd.int .u8).sz = 1 from rfl, Nat.mul_one] at hd
              have HD := Lib.hid hd
              have E1 := Lib.hid (show n - (j + 1) = (l.drop (j + 1)).length by rw [List.length_drop, ← HN.out])
              clear hd
              clear HS2 HF0 HY
              rcases t3 with t3 | ⟨t3, t4, t4n⟩
              all_goals
                go_wp2_with fail
              all_goals
                rw [E1.out]
                refine (clone8_calls _ _ (l.drop (j + 1)) wr ?rd ?le).mono ?_
                case rd => first | (have := HD.out; rw [if_pos (by omega)] at this; exact this) | (have := HD.out; rw [if_neg (by omega)] at this; exact this)
                case le => have := HL.out; rw [List.length_drop]; omega
                rintro e w2 ⟨v2, rfl, ho2, hb2⟩
                go_wp2
                simp only [Exit.noGoto_ret]
                go_ret3
                rw [HF.out]
                exact ⟨_, rfl, ho2, hb2⟩
          · have HS2 := Lib.hid (by have := HS.out; rw [if_neg hz, if_neg h128] at this; exact HG.out.trans this : tkGo l 9 0 0 = tkGo l (9 - (j + 1)) (j + 1) y)
            have t3 : (b == 0) = false := by simp; omega
            have t5 : decide (b < 128) = false := by simp; omega
            clear HF0 HS HX hz
            go_wp2
            exact ⟨⟨j + 1, y, by omega, by omega, rfl, rfl, by go_num, trivial, hy0, HY.out, HS2.out⟩, by simp [intOf]; omega⟩
    · have t1 : decide ((j : Int) < (n : Int)) = false := by simpa using hlt
      have HF := Lib.hid (fin0 x (by
        rw [HG.out]
        by_cases h9 : j = 9
        · rw [h9]; rfl
        · rw [tkGo_step l j x (by omega), if_pos (by have := HN.out; omega)]))
      clear fin0
      go_wp2
      simp only [Exit.noGoto_ret]
      go_ret3
      rw [HF.out]
      exact ⟨_, rfl, Kd.R_nil _ _ _ _ _, Below.refl _ _⟩
theorem code_TakeNum.calls (A0 : Option Addr) (c0 : Nat) (l0 : List Int) (r1 : Int) (r2 : List Int) (r3 : Int) (w : World) (hr0 : Kd.C (Kd.int .u8) w A0 l0.length l0) (hc0 : l0.length ≤ c0) (h : code_TakeNum.f l0 = some (r1, r2, r3)) :
    Calls Try.prog 42 #[.slice A0 l0.length c0] w fun e w' => ∃ v1_ : Value, e = .returned (.tuple #[.int .i64 r1, v1_, .int .i64 r3]) ∧ Kd.R (Kd.int .u8) 5 w' w.heap.size (fun _ => True) v1_ r2 ∧ Below w.heap.size w w' := by
  unfold code_TakeNum.f at h
  split at h
  case isFalse => cases h
  rename_i hok
  have h2 := Option.some.inj h
  have := takeNum_walk A0 c0 l0 w hr0 hc0 hok.1 hok.2
  rw [h2] at this
  exact this
end Go.Proofs.Ytoihdghoopgdfaa
end
