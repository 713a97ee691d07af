-- JOINED BY A PROGRAM OF THIS PLACE (wip/tools/pack.py) out of: SpCodes SpCodesW
import Derived.Test.YtoihdghoopgdfaaX211
import Derived.Test.YtoihdghoopgdfaaX212
import Derived.Test.YtoihdghoopgdfaaX228
import Derived.Test.YtoihdghoopgdfaaX229
section
/-
  The document's own way to lay and take numbers and spans: the same bytes, the same spans.
-/
namespace Go.Proofs.Ytoihdghoopgdfaa.F
open Go.RowKit Go.Proofs.Ytoihdghoopgdfaa Go.Proofs.YtoihdghoopgdfaaW.PrintWords Go.Proofs.YtoihdghoopgdfaaW.PrintLast Go.Proofs.YtoihdghoopgdfaaW.PrintMore
set_option linter.unusedVariables false
set_option linter.unusedSimpArgs false
theorem rputNum_from : ∀ (f n : Nat) (x5 : List Int), n < 128 ^ f → f ≤ 9 → 0 < f → x5.length + f ≤ 100 → Ev (fun k => sawyerref02_PutNum.l0 k (n : Int) x5) (x5 ++ Cd.put f n)
  | 0, n, x5, hn, h9, hf, hx => absurd hf (by omega)
  | f + 1, n, x5, hn, h9, hf, hx => by
    have hbig : n < 9223372036854775808 := Nat.lt_of_lt_of_le hn (Nat.le_trans (Nat.pow_le_pow_right (by omega) h9) (by decide))
    by_cases hlt : n < 128
    · have e : Cd.put (f + 1) n = [(n : Int)] := by unfold Cd.put; rw [if_pos hlt]
      refine Ev.step (f := fun _ => some _) (fun k => ?_) (Ev.now _)
      simp only [sawyerref02_PutNum.l0]
      rw [if_neg (by omega), if_pos (by omega), e, show (n : Int) % 256 = (n : Int) by omega]
    · have e : Cd.put (f + 1) n = ((n % 128 + 128 : Nat) : Int) :: Cd.put f (n / 128) := by rw [Cd.put, if_neg hlt]
      have hq : n / 128 < 128 ^ f := by rw [Nat.pow_succ] at hn; exact Nat.div_lt_of_lt_mul (by rw [Nat.mul_comm]; exact hn)
      have hf0 : 0 < f := by
        rcases Nat.eq_zero_or_pos f with h | h
        · subst h; simp at hq; omega
        · exact h
      have ih := rputNum_from f (n / 128) (x5 ++ [((n % 128 + 128 : Nat) : Int)]) hq (by omega) hf0 (by simp; omega)
      rw [e]
      rw [List.append_assoc] at ih
      refine Ev.step (fun k => ?_) ih
      simp only [sawyerref02_PutNum.l0]
      rw [if_pos (by omega), if_pos (by omega), Int.tdiv_eq_ediv_of_nonneg (by omega), Int.tmod_eq_emod_of_nonneg (by omega), show wrap64 ((n : Int) / 128) = ((n / 128 : Nat) : Int) by unfold wrap64; omega, show (wrap64 (128 + (n : Int) % 128)) % 256 = ((n % 128 + 128 : Nat) : Int) by unfold wrap64; omega]
theorem rputNum_ev (n : Nat) (hn : n ≤ 4611686018427387903) : Ev (fun k => sawyerref02_PutNum.f k [] (n : Int)) (Cd.num n) := by
  have h := rputNum_from 9 n [] (by omega) (by omega) (by omega) (by simp)
  have e : mn (mx (n : Int) 0) 4611686018427387903 = (n : Int) := by
    unfold mn mx
    (repeat' split) <;> omega
  refine Ev.congr (fun k => ?_) h
  unfold sawyerref02_PutNum.f
  rw [if_pos (by simp), e]
  rfl
theorem rencode_from (a : Int) (l : List ByteArray) (hs : Sp.sized l) (hl : l.length ≤ 1000) (d : Nat) : ∀ (i : Nat) (x5 : List Int), i + d = l.length → x5.length ≤ 100 + 32 * i → Ev (fun k => sawyerref16_Encode.l0 k x5 (i : Int) a l) (x5 ++ Cd.cat (l.drop i), 0) := by
  induction d with
  | zero =>
    intro i x5 hi hx
    refine Ev.step (f := fun _ => some _) (fun k => ?_) (Ev.now _)
    simp only [sawyerref16_Encode.l0]
    rw [if_neg (by omega), List.drop_eq_nil_of_le (by omega)]
    simp [Cd.cat]
  | succ d ih =>
    intro i x5 hi hx
    have hlt : i < l.length := by omega
    have h32 := Sp.sized_get hs i hlt
    have e : l.drop i = l.getD i ByteArray.empty :: l.drop (i + 1) := by
      rw [List.drop_eq_getElem_cons hlt, List.getD_eq_getElem?_getD, List.getElem?_eq_getElem hlt]; rfl
    have ih2 := ih (i + 1) (x5 ++ bytesOf (l.getD i ByteArray.empty)) (by omega) (by rw [List.length_append, bytesOf_length, h32]; omega)
    rw [List.append_assoc] at ih2
    rw [e]
    refine Ev.step (fun k => ?_) ih2
    simp only [sawyerref16_Encode.l0]
    rw [if_pos (by omega), if_pos (by omega), rdOf_nat', if_pos (by rw [h32]; omega), show wrap64 ((i : Int) + 1) = ((i + 1 : Nat) : Int) by unfold wrap64; omega]
theorem rencode_ev (n : Nat) (l : List ByteArray) (hok : spanOk (n : Int) l = true) : Ev (fun k => sawyerref16_Encode.f k (n : Int) l) (Cd.num n ++ Cd.cat l, 0) := by
  have h3 := (spanOk_iff (n : Int) l).1 hok
  have hs : Sp.sized l := Sp.sized_of h3.2.2.2
  have hl := spanOk_short hok
  have h0 := check_ev (n : Int) l (by omega)
  rw [if_pos hok] at h0
  have h1 := rputNum_ev n (by omega)
  have h2 := rencode_from (n : Int) l hs (by omega) l.length 0 (Cd.num n) (by omega) (by have := Cd.put_short n 9 n; unfold Cd.num; omega)
  rw [List.drop_zero] at h2
  have h12 := Ev.bind (f := fun k t => sawyerref16_Encode.l0 k t ((0 : Nat) : Int) (n : Int) l) h1 h2
  refine Ev.congr (fun k => ?_) (Ev.bind (f := fun k t => if t = 0 then ((sawyerref02_PutNum.f k ([] : List Int) (n : Int)).bind fun t356 => sawyerref16_Encode.l0 k t356 ((0 : Nat) : Int) (n : Int) l) else some (([] : List Int), 1)) h0 (Ev.congr (fun k => if_pos rfl) h12))
  rfl
theorem rencode_no (a : Int) (l : List ByteArray) (hl : l.length ≤ 9223372036854775806) (hok : ¬ spanOk a l = true) : Ev (fun k => sawyerref16_Encode.f k a l) ([], 1) := by
  have h0 := check_ev a l hl
  rw [if_neg hok] at h0
  refine Ev.congr (fun k => ?_) (Ev.bind (f := fun k t => if t = 0 then ((sawyerref02_PutNum.f k ([] : List Int) a).bind fun t356 => sawyerref16_Encode.l0 k t356 0 a l) else some (([] : List Int), 1)) h0 (by simpa using Ev.now _))
  rfl
theorem num_len (n : Nat) (hn : n ≤ 4611686018427387903) (j : Nat) (hj : j < 9) (hlo : 128 ^ j ≤ n) (hhi : n < 128 ^ (j + 1)) : (Cd.num n).length = j + 1 := by
  have key : ∀ (f j n : Nat), j < f → 128 ^ j ≤ n → n < 128 ^ (j + 1) → (Cd.put f n).length = j + 1 := by
    intro f
    induction f with
    | zero => intro j n h; omega
    | succ f ih =>
      intro j n h h1 h2
      cases j with
      | zero =>
        rw [Cd.put, if_pos (by simpa using h2)]
        rfl
      | succ j =>
        have hp : 1 ≤ 128 ^ j := Nat.one_le_pow _ _ (by omega)
        have hge : ¬ n < 128 := by rw [Nat.pow_succ] at h1; omega
        rw [Cd.put, if_neg hge, List.length_cons, ih j (n / 128) (by omega) (by rw [Nat.pow_succ] at h1; omega) (by rw [Nat.pow_succ] at h2; omega)]
  exact key 9 j n hj hlo hhi
theorem num_short (n j : Nat) (hj : 0 < j) (hj9 : j < 9) (hn : n < 128 ^ j) : (Cd.num n).length ≠ j + 1 := by
  have key : ∀ (f j n : Nat), 0 < j → j ≤ f → n < 128 ^ j → (Cd.put f n).length ≤ j := by
    intro f
    induction f with
    | zero => intro j n h h2; omega
    | succ f ih =>
      intro j n h h2 h3
      by_cases hlt : n < 128
      · rw [Cd.put, if_pos hlt]
        exact h
      · obtain ⟨j, rfl⟩ : ∃ i, j = i + 1 := ⟨j - 1, by omega⟩
        have hj0 : 0 < j := by
          rcases Nat.eq_zero_or_pos j with h0 | h0
          · subst h0; simp at h3; omega
          · exact h0
        rw [Cd.put, if_neg hlt, List.length_cons]
        have := ih j (n / 128) hj0 (by omega) (by rw [Nat.pow_succ] at h3; omega)
        omega
  have := key 9 j n hj (by omega) hn
  unfold Cd.num
  omega
def tkRes (p : Int × Nat) (b : List Int) : Int × List Int × Int := if p.2 = 0 ∨ p.1 > 4611686018427387903 then (0, [], 2) else (p.1, b.drop p.2, 0)
theorem rtake_off (b : List Int) (x5 x6 x7 : Int) : Ev (fun k => sawyerref02_TakeNum.j1 k b x5 x6 x7 false) (0, [], 2) := by
  refine Ev.step (f := fun _ => some _) (fun k => ?_) (Ev.now _)
  simp only [sawyerref02_TakeNum.j1]
  rw [if_neg (by decide)]
/-- one byte of the reference's loop, ahead of its j2 -/
theorem rtake_j2 (b : List Int) (x5 x6 : Int) (i : Nat) (hi : i < 9) (hlt : i < b.length) (c : Int) (hc : rd b (i : Int) = c) (hc0 : 0 ≤ c) (hc1 : c < 256) (r : Int × List Int × Int) (h : Ev (fun k => sawyerref02_TakeNum.j2 k b x5 x6 (i : Int) (c % 128) (decide (i = 8 ∧ c % 128 > 63))) r) : Ev (fun k => sawyerref02_TakeNum.l0 k b x5 x6 (i : Int)) r := by
  have e1 : wrap64 (Int.tmod c 128) = c % 128 := by rw [Int.tmod_eq_emod_of_nonneg hc0]; unfold wrap64; omega
  have g1 : (i : Int) < (b.length : Int) := by omega
  have g2 : (0 : Int) ≤ (i : Int) := by omega
  have g3 : decide ((i : Int) < 9) = true := by simp; omega
  refine Ev.step (f := fun k => sawyerref02_TakeNum.j1 k b x5 x6 (i : Int) true) (fun k => ?_) (Ev.step (fun k => ?_) h)
  · simp only [sawyerref02_TakeNum.l0]
    rw [if_pos g1, g3]
  · simp only [sawyerref02_TakeNum.j1]
    rw [if_pos trivial, if_pos g2, if_pos g1, hc, e1]
    by_cases h8 : i = 8
    · rw [if_pos (by omega)]
      congr 1
      simp [h8]
    · rw [if_neg (by omega)]
      congr 1
      simp [h8]
theorem rtake_bad (b : List Int) (x5 x6 x7 x8 : Int) : Ev (fun k => sawyerref02_TakeNum.j2 k b x5 x6 x7 x8 true) (0, [], 2) := by
  refine Ev.step (f := fun _ => some _) (fun k => ?_) (Ev.now _)
  simp only [sawyerref02_TakeNum.j2]
  rw [if_pos trivial]
theorem rtake_next (b : List Int) (x5 x6 : Int) (i : Nat) (hi : i < 9) (hlt : i < b.length) (c D : Int) (hc : rd b (i : Int) = c) (hc2 : ¬ c < 128) (y5 y6 : Int) (h5 : wrap64 (x5 + wrap64 (D * x6)) = y5) (h6 : wrap64 (x6 * 128) = y6) (r : Int × List Int × Int)
    (h : Ev (fun k => sawyerref02_TakeNum.l0 k b y5 y6 ((i + 1 : Nat) : Int)) r) : Ev (fun k => sawyerref02_TakeNum.j2 k b x5 x6 (i : Int) D false) r := by
  have g1 : (i : Int) < (b.length : Int) := by omega
  have g2 : (0 : Int) ≤ (i : Int) := by omega
  have g3 : wrap64 ((i : Int) + 1) = ((i + 1 : Nat) : Int) := by unfold wrap64; omega
  refine Ev.step (fun k => ?_) h
  simp only [sawyerref02_TakeNum.j2]
  rw [if_neg (by decide), if_pos g2, if_pos g1, hc, if_neg hc2, h5, h6, g3]
theorem rtake_end (b : List Int) (hbl : b.length ≤ 140737488354000) (x5 x6 : Int) (i : Nat) (hi : i < 9) (hlt : i < b.length) (c D : Int) (hc : rd b (i : Int) = c) (hc2 : c < 128) (n : Nat) (h5 : wrap64 (x5 + wrap64 (D * x6)) = (n : Int)) (hn : n ≤ 4611686018427387903) :
    Ev (fun k => sawyerref02_TakeNum.j2 k b x5 x6 (i : Int) D false) (if (Cd.num n).length = i + 1 then ((n : Int), b.drop (i + 1), 0) else (0, [], 2)) := by
  have g1 : (i : Int) < (b.length : Int) := by omega
  have g2 : (0 : Int) ≤ (i : Int) := by omega
  have g3 : wrap64 ((i : Int) + 1) = ((i + 1 : Nat) : Int) := by unfold wrap64; omega
  have g4 : (0 : Int) ≤ ((i + 1 : Nat) : Int) := by omega
  have g5 : ((i + 1 : Nat) : Int) ≤ (b.length : Int) := by omega
  have g6 : ([] : List Int).length + (b.drop (i + 1)).length < 140737488355328 := by rw [List.length_drop]; simp only [List.length_nil]; omega
  have h1 := rputNum_ev n hn
  by_cases hL : (Cd.num n).length = i + 1
  · rw [if_pos hL]
    refine Ev.step (fun k => ?_) (Ev.bind (f := fun k t => if (t.length : Int) = ((i + 1 : Nat) : Int) then some ((n : Int), b.drop (i + 1), 0) else some (0, ([] : List Int), 2)) h1 (Ev.congr (fun k => if_pos (by omega)) (Ev.now _)))
    simp only [sawyerref02_TakeNum.j2]
    rw [if_neg (by decide), if_pos g2, if_pos g1, hc, if_pos hc2, h5, g3]
    simp only [Option.bind_some, if_pos g4, if_pos g5, Int.toNat_natCast, if_pos g6, List.nil_append]
  · rw [if_neg hL]
    refine Ev.step (fun k => ?_) (Ev.bind (f := fun k t => if (t.length : Int) = ((i + 1 : Nat) : Int) then some ((n : Int), b.drop (i + 1), 0) else some (0, ([] : List Int), 2)) h1 (Ev.congr (fun k => if_neg (by omega)) (Ev.now _)))
    simp only [sawyerref02_TakeNum.j2]
    rw [if_neg (by decide), if_pos g2, if_pos g1, hc, if_pos hc2, h5, g3]
    simp only [Option.bind_some, if_pos g4, if_pos g5, Int.toNat_natCast, if_pos g6, List.nil_append]
theorem wrap64_nat (x : Nat) (h : x < 9223372036854775808) : wrap64 (x : Int) = (x : Int) := by unfold wrap64; omega
theorem tkRes_zero (x : Int) (b : List Int) : tkRes (x, 0) b = (0, [], 2) := if_pos (.inl rfl)
theorem pow_le9 (i : Nat) (h : i ≤ 8) : 128 ^ i ≤ 72057594037927936 := Nat.le_trans (Nat.pow_le_pow_right (by omega) h) (by decide)
theorem rtake_from (b : List Int) (hb : ∀ x ∈ b, 0 ≤ x ∧ x < 256) (hbl : b.length ≤ 140737488354000) (d : Nat) : ∀ (i n : Nat) (x6 : Int), i + d = 9 → n < 128 ^ i → (i < 9 → x6 = ((128 ^ i : Nat) : Int)) → Ev (fun k => sawyerref02_TakeNum.l0 k b (n : Int) x6 (i : Int)) (tkRes (tkGo b (9 - i) i (n : Int)) b) := by
  induction d with
  | zero =>
    intro i n x6 hi hn hx
    obtain rfl : i = 9 := by omega
    rw [show tkGo b (9 - 9) 9 (n : Int) = ((n : Int), 0) from rfl, tkRes_zero]
    refine Ev.step (fun k => ?_) (rtake_off b (n : Int) x6 ((9 : Nat) : Int))
    simp only [sawyerref02_TakeNum.l0]
    by_cases c : ((9 : Nat) : Int) < (b.length : Int)
    · rw [if_pos c]
      rfl
    · rw [if_neg c]
  | succ d ih =>
    intro i n x6 hi hn hx
    have hi9 : i < 9 := by omega
    have hP := pow_le9 i (by omega)
    rw [tkGo_step b i (n : Int) hi9]
    by_cases c1 : b.length ≤ i
    · rw [if_pos c1, tkRes_zero]
      refine Ev.step (fun k => ?_) (rtake_off b (n : Int) x6 (i : Int))
      simp only [sawyerref02_TakeNum.l0]
      rw [if_neg (by omega)]
    · rw [if_neg c1]
      have hlt : i < b.length := by omega
      have hc := hb (b.getD i 0) (by rw [List.getD_eq_getElem?_getD, List.getElem?_eq_getElem hlt]; exact List.getElem_mem hlt)
      have hrd : rd b (i : Int) = b.getD i 0 := rfl
      have hx6 := hx hi9
      obtain ⟨P, hPP⟩ : ∃ P : Nat, P = 128 ^ i := ⟨_, rfl⟩
      have hPs : 128 ^ (i + 1) = P * 128 := by rw [Nat.pow_succ, ← hPP]
      have hP0 : 1 ≤ P := by rw [hPP]; exact Nat.one_le_pow _ _ (by omega)
      rw [← hPP] at hn hx6 hP ⊢
      generalize b.getD i 0 = c at *
      obtain ⟨D, hD⟩ : ∃ D : Nat, (D : Int) = c % 128 := ⟨(c % 128).toNat, by omega⟩
      have hD2 : D < 128 := by omega
      refine rtake_j2 b (n : Int) x6 i hi9 hlt c hrd hc.1 hc.2 _ ?_
      rw [← hD]
      have hDP : D * P ≤ 127 * P := Nat.mul_le_mul_right _ (by omega)
      have hsum : (n : Int) + (D : Int) * (P : Int) = ((n + D * P : Nat) : Int) := by simp
      rw [hsum]
      by_cases h8 : i = 8 ∧ (D : Int) > 63
      · rw [show decide (i = 8 ∧ (D : Int) > 63) = true by simpa using h8]
        have hPv : P = 72057594037927936 := by rw [hPP, h8.1]
        have hcz : ¬ (c = 0 ∧ 0 < i) := by omega
        rw [if_neg hcz]
        have hbad : (if c < 128 then (((n + D * P : Nat) : Int), i + 1) else tkGo b (9 - (i + 1)) (i + 1) ((n + D * P : Nat) : Int)).2 = 0 ∨ (if c < 128 then (((n + D * P : Nat) : Int), i + 1) else tkGo b (9 - (i + 1)) (i + 1) ((n + D * P : Nat) : Int)).1 > 4611686018427387903 := by
          by_cases hc2 : c < 128
          · rw [if_pos hc2]
            right
            show ((n + D * P : Nat) : Int) > 4611686018427387903
            have h64 : 64 * P ≤ D * P := Nat.mul_le_mul_right _ (by omega)
            omega
          · rw [if_neg hc2]
            left
            rw [h8.1]
            rfl
        rw [tkRes, if_pos hbad]
        exact rtake_bad b (n : Int) x6 (i : Int) (D : Int)
      · rw [show decide (i = 8 ∧ (D : Int) > 63) = false by simpa using h8]
        have hsm : n + D * P ≤ 4611686018427387903 := by
          by_cases hi8 : i = 8
          · have hPv : P = 72057594037927936 := by rw [hPP, hi8]
            have h63 : D * P ≤ 63 * P := Nat.mul_le_mul_right _ (by omega)
            omega
          · have hP7 : P ≤ 562949953421312 := by rw [hPP]; exact Nat.le_trans (Nat.pow_le_pow_right (by omega) (show i ≤ 7 by omega)) (by decide)
            omega
        have hw5 : wrap64 ((n : Int) + wrap64 ((D : Int) * x6)) = ((n + D * P : Nat) : Int) := by
          rw [hx6, show (D : Int) * (P : Int) = ((D * P : Nat) : Int) by simp, wrap64_nat (D * P) (by omega), show (n : Int) + ((D * P : Nat) : Int) = ((n + D * P : Nat) : Int) by simp, wrap64_nat _ (by omega)]
        by_cases hc2 : c < 128
        · have hDc : (D : Int) = c := by omega
          have he := rtake_end b hbl (n : Int) x6 i hi9 hlt c (D : Int) hrd hc2 (n + D * P) hw5 hsm
          by_cases hcz : c = 0 ∧ 0 < i
          · rw [if_pos hcz, tkRes_zero]
            have hD0 : D = 0 := by omega
            have hne := num_short (n + D * P) i hcz.2 hi9 (by rw [hD0, ← hPP]; omega)
            rw [if_neg hne] at he
            exact he
          · rw [if_neg hcz, if_pos hc2]
            have heq : (Cd.num (n + D * P)).length = i + 1 := by
              rcases Nat.eq_zero_or_pos i with h0 | h0
              · subst h0
                have hP1 : P = 1 := hPP
                have hlt2 : n + D * P < 128 := by rw [hP1]; omega
                unfold Cd.num
                rw [Cd.put, if_pos hlt2]
                rfl
              · have hD1 : 1 ≤ D := by omega
                have h1P : 1 * P ≤ D * P := Nat.mul_le_mul_right _ hD1
                exact num_len _ hsm i hi9 (by rw [← hPP]; omega) (by rw [hPs]; omega)
            rw [if_pos heq] at he
            rw [tkRes, if_neg (show ¬ (i + 1 = 0 ∨ ((n + D * P : Nat) : Int) > 4611686018427387903) by omega)]
            exact he
        · have hcz : ¬ (c = 0 ∧ 0 < i) := by omega
          rw [if_neg hcz, if_neg hc2]
          refine rtake_next b (n : Int) x6 i hi9 hlt c (D : Int) hrd hc2 ((n + D * P : Nat) : Int) (wrap64 (x6 * 128)) hw5 rfl _ ?_
          refine ih (i + 1) (n + D * P) (wrap64 (x6 * 128)) (by omega) (by rw [hPs]; omega) (fun h9 => ?_)
          have hP7 : P ≤ 562949953421312 := by rw [hPP]; exact Nat.le_trans (Nat.pow_le_pow_right (by omega) (show i ≤ 7 by omega)) (by decide)
          rw [hPs, hx6, show (P : Int) * 128 = ((P * 128 : Nat) : Int) by simp, wrap64_nat _ (by omega)]
theorem rtake_ev (b : List Int) (hb : ∀ x ∈ b, 0 ≤ x ∧ x < 256) (hbl : b.length ≤ 140737488354000) : Ev (fun k => sawyerref02_TakeNum.f k b) (tkNum b) :=
  rtake_from b hb hbl 9 0 0 1 rfl (by omega) (fun _ => rfl)
theorem rdec_loop (r : List Int) (hm : r.length % 32 = 0) (hl : r.length ≤ 2048) (n : Int) (d : Nat) : ∀ (j : Nat), j + d = r.length / 32 → Ev (fun k => sawyerref16_Decode.l0 k r ((32 * j : Nat) : Int) n (decTexts r j)) (if spanOk n (decOf r) = true then (n, decOf r, 0) else (0, [], 2)) := by
  induction d with
  | zero =>
    intro j hj
    have e : decTexts r j = decOf r := by unfold decOf; rw [show (r.length + 31) / 32 = j by omega]
    have hlen : (decOf r).length ≤ 9223372036854775806 := by rw [← e, decTexts_length]; omega
    have h0 := check_ev n (decOf r) hlen
    rw [e]
    refine Ev.step (fun k => ?_) (Ev.bind (f := fun k t => if t = 0 then some (n, decOf r, 0) else some (0, ([] : List ByteArray), 2)) h0 (Ev.congr (fun k => ?_) (Ev.now _)))
    · simp only [sawyerref16_Decode.l0]
      rw [if_neg (by omega)]
    · by_cases hok : spanOk n (decOf r) = true
      · rw [if_pos hok, if_pos hok, if_pos rfl]
      · rw [if_neg hok, if_neg hok, if_neg (by decide)]
  | succ d ih =>
    intro j hj
    have ih2 := ih (j + 1) (by omega)
    rw [decTexts_succ] at ih2
    have g1 : ((32 * j : Nat) : Int) < (r.length : Int) := by omega
    have g2 : (0 : Int) ≤ ((32 * j : Nat) : Int) := by omega
    have g3 : wrap64 (((32 * j : Nat) : Int) + 32) = ((32 * (j + 1) : Nat) : Int) := by unfold wrap64; omega
    have g4 : ((32 * j : Nat) : Int) ≤ ((32 * (j + 1) : Nat) : Int) := by omega
    have g5 : ((32 * (j + 1) : Nat) : Int) ≤ (r.length : Int) := by omega
    have g6 : (decTexts r j).length < 8796093022208 := by rw [decTexts_length]; omega
    have g7 : (r.take (32 * (j + 1))).drop (32 * j) = (r.drop (32 * j)).take 32 := by rw [List.drop_take, show 32 * (j + 1) - 32 * j = 32 by omega]
    refine Ev.step (fun k => ?_) ih2
    simp only [sawyerref16_Decode.l0]
    rw [g3, if_pos g1, if_pos g2, if_pos g4, if_pos g5, if_pos g6, Int.toNat_natCast, Int.toNat_natCast, g7]
    rfl
theorem rdec_bad (n : Int) (r : List Int) : Ev (fun k => sawyerref16_Decode.j0 k n r true) (0, [], 2) := by
  refine Ev.step (f := fun _ => some _) (fun k => ?_) (Ev.now _)
  simp only [sawyerref16_Decode.j0]
  rw [if_pos trivial]
theorem rdec_good (n : Int) (r : List Int) (hm : r.length % 32 = 0) (hl : r.length ≤ 2048) : Ev (fun k => sawyerref16_Decode.j0 k n r false) (if spanOk n (decOf r) = true then (n, decOf r, 0) else (0, [], 2)) := by
  have h := rdec_loop r hm hl n (r.length / 32) 0 (by omega)
  refine Ev.step (fun k => ?_) h
  simp only [sawyerref16_Decode.j0]
  rw [if_neg (by decide)]
  rfl
theorem rdec_ev (b : List Int) (hb : ∀ x ∈ b, 0 ≤ x ∧ x < 256) (hbl : b.length ≤ 140737488354000) : Ev (fun k => sawyerref16_Decode.f k b) (spDecode b) := by
  have h1 := rtake_ev b hb hbl
  have hr : ∀ x ∈ (tkNum b).2.1, 0 ≤ x ∧ x < 256 := by
    unfold tkNum
    split
    · intro x hx; cases hx
    · intro x hx; exact hb x (List.mem_of_mem_drop hx)
  unfold spDecode
  generalize tkNum b = p at *
  obtain ⟨n, r, e⟩ := p
  have key : Ev (fun k => if e = 0 then (if ((r.length : Int) % 32) = 0 then (sawyerref16_Decode.j0 k n r (decide ((r.length : Int) > 2048))) else (sawyerref16_Decode.j0 k n r true)) else (sawyerref16_Decode.j0 k n r true)) (if e = 0 ∧ spanOk n (decOf r) = true then (n, decOf r, 0) else (0, [], 2)) := by
    by_cases he : e = 0
    · by_cases hm : r.length % 32 = 0
      · by_cases hl : r.length ≤ 2048
        · refine Ev.congr (fun k => ?_) (rdec_good n r hm hl |> fun h => by
            have e2 : (if e = 0 ∧ spanOk n (decOf r) = true then (n, decOf r, (0 : Int)) else (0, [], 2)) = (if spanOk n (decOf r) = true then (n, decOf r, 0) else (0, [], 2)) := by simp [he]
            rw [e2]; exact h)
          rw [if_pos he, if_pos (by omega), show decide ((r.length : Int) > 2048) = false by simp; omega]
        · have hno : ¬ (e = 0 ∧ spanOk n (decOf r) = true) := by
            rintro ⟨_, h⟩
            have h2 := (spanOk_short h).2
            unfold decOf at h2
            rw [decTexts_length] at h2
            omega
          rw [if_neg hno]
          refine Ev.congr (fun k => ?_) (rdec_bad n r)
          rw [if_pos he, if_pos (by omega), show decide ((r.length : Int) > 2048) = true by simp; omega]
      · have hno : ¬ (e = 0 ∧ spanOk n (decOf r) = true) := by
          rintro ⟨_, h⟩
          have hs := (spanOk_short h).1
          have h2 := Cd.cat_dec r.length r (Nat.le_refl _) hr hs
          have h3 := Cd.cat_length _ hs
          rw [h2] at h3
          omega
        rw [if_neg hno]
        refine Ev.congr (fun k => ?_) (rdec_bad n r)
        rw [if_pos he, if_neg (by omega)]
    · rw [if_neg (fun h => he h.1)]
      refine Ev.congr (fun k => ?_) (rdec_bad n r)
      rw [if_neg he]
  refine Ev.congr (fun k => ?_) (Ev.bind (f := fun k bt => if bt.2.2 = 0 then (if ((bt.2.1.length : Int) % 32) = 0 then (sawyerref16_Decode.j0 k bt.1 bt.2.1 (decide ((bt.2.1.length : Int) > 2048))) else (sawyerref16_Decode.j0 k bt.1 bt.2.1 true)) else (sawyerref16_Decode.j0 k bt.1 bt.2.1 true)) h1 key)
  rfl
end Go.Proofs.Ytoihdghoopgdfaa.F
end
section
/-
  SpanCodes answers true for every span and all bytes.
-/
namespace Go.Proofs.Ytoihdghoopgdfaa
open Go.RowKit Go.Proofs.YtoihdghoopgdfaaW.PrintWords Go.Proofs.YtoihdghoopgdfaaW.PrintLast Go.Proofs.YtoihdghoopgdfaaW.PrintMore
set_option linter.unusedVariables false
set_option linter.unusedSimpArgs false
def sc6_T : Bool × List (List Nat × List Nat) := (true, [([], []), ([0], [0]), ([1], [1]), ([1], [1]), ([2, 3, 1], [1, 2, 3]), ([1, 4], [1, 4]), ([5, 1], [5]), ([6], [6]), ([6], [6]), ([7, 8, 6, 6], [6, 7, 8]), ([6, 9], [6, 9]), ([10, 9], [10]), ([11], [11]), ([11], [11]), ([12, 13, 11], [11, 12, 13]), ([11, 14], [11, 14]), ([15, 11], [15]), ([16], [16]), ([17, 16, 16], [16, 17]), ([16], [16]), ([18, 19, 18, 16], [16, 18, 19]), ([16, 20], [16, 20]), ([21, 20, 0, 1, 2, 3, 4, 5, 6, 7, 8, 9, 10, 11, 12, 13, 14, 15, 16, 17, 18, 19, 20, 21], [21])])
def sc6_B : List Nat := [0, 1, 3, 3, 15, 31, 63, 127, 127, 511, 1023, 2047, 4095, 4095, 16383, 32767, 65535, 131071, 262143, 131071, 1048575, 2097151, 4194303]
theorem sc6_tab : rtab .any (opsOf Try.f5 6) = sc6_T := by kernel_rfl
theorem sc6_bits : waitsOk sc6_T.2 sc6_B = true := by kernel_rfl
theorem enc_both (a : Int) (l : List ByteArray) (hl : l.length ≤ 9223372036854775806) : ∃ bs ec, Ev (fun k => F.span_Encode.f k a l) (bs, ec) ∧ Ev (fun k => F.sawyerref16_Encode.f k a l) (bs, ec) := by
  by_cases hok : spanOk a l = true
  · obtain ⟨n, rfl⟩ : ∃ n : Nat, a = (n : Int) := ⟨a.toNat, by have := ((spanOk_iff a l).1 hok).1; omega⟩
    exact ⟨_, _, F.encode_ev n l hok, F.rencode_ev n l hok⟩
  · refine ⟨[], 1, Ev.congr (f := fun _ => some ([], 1)) (fun k => ?_) (Ev.now _), F.rencode_no a l hl hok⟩
    unfold F.span_Encode.f span_Check.f
    rw [if_neg hok, Option.bind_some, if_neg (by decide)]
theorem dec_short (b : List Int) (h : b.length ≤ 140737488354000) : (spDecode b).2.1.length ≤ 9223372036854775806 := by
  unfold spDecode
  split
  · have h2 : (tkNum b).2.1.length ≤ b.length := by
      unfold tkNum; split
      · simp
      · simp only [List.length_drop]; omega
    show (decOf (tkNum b).2.1).length ≤ _
    unfold decOf
    rw [decTexts_length]
    omega
  · simp
set_option maxRecDepth 100000 in
set_option maxHeartbeats 16000000 in
theorem codes_walk (a : Int) (A : Option Addr) (c : Nat) (l : List ByteArray) (B : Option Addr) (cb : Nat) (b : List Int) (w : World) (hr : RdT w A l) (hc : l.length ≤ c) (hl : l.length ≤ 9223372036854775806) (hrb : Kd.C (Kd.int .u8) w B b.length b) (hcb : b.length ≤ cb) (hby : ∀ x ∈ b, 0 ≤ x ∧ x < 256) (hbl : b.length ≤ 140737488354000) :
    Calls Try.prog 5 #[.agg #[.int .i64 a, .slice A l.length c], .slice B b.length cb] w fun e w' => e = .returned (.bool true) ∧ Below w.heap.size w w' := by
  obtain ⟨bs, ec, hen, hren⟩ := enc_both a l hl
  obtain ⟨ke, hke⟩ := hen.rounds
  obtain ⟨kr, hkr⟩ := hren.rounds
  obtain ⟨kd, hkd⟩ := (F.rdec_ev b hby hbl).rounds
  have hXl := dec_short b hbl
  obtain ⟨x1, X, xe, hX⟩ : ∃ x1 X xe, spDecode b = (x1, X, xe) := ⟨_, _, _, rfl⟩
  rw [hX] at hkd hXl
  obtain ⟨ks, hks⟩ := (F.same16_ev x1 X hXl).rounds
  have HXD := Lib.hid (show span_Decode.f b = some (x1, X, xe) by rw [← hX]; exact if_pos ⟨hby, by omega⟩)
  have HKE := Lib.hid hke
  have HKR := Lib.hid hkr
  have HKD := Lib.hid hkd
  have HKS := Lib.hid hks
  have HR := Lib.hid hr
  have HLC := Lib.hid hc
  have HRB := Lib.hid hrb
  have HLB := Lib.hid hcb
  obtain ⟨n, hn⟩ : ∃ n, n = l.length := ⟨_, rfl⟩
  have HN := Lib.hid hn
  obtain ⟨nb, hnb⟩ : ∃ n, n = b.length := ⟨_, rfl⟩
  have HNB := Lib.hid hnb
  have te : (ec == ec) = true := by simp
  have tx : (xe == xe) = true := by simp
  rw [← hn, ← hnb]
  clear hr hc hl hrb hcb hby hbl hen hren hke hkr hkd hX hXl hks hn hnb
  go_enter Try.func5, Try.ntmps5
  go_wp2_with fail
  refine (awake16_calls _).mono ?_
  rintro e w1 ⟨rfl, hb1⟩
  have HG1 := Lib.hid ((hb1.block w.heap.size (by simp)).trans (blk_new w _))
  have HB1 := Lib.hid (below_then ((Below.refl w.heap.size w).alloc (Nat.le_refl _) _) (by simp) hb1)
  obtain ⟨hcl1, hfz1⟩ := bcell hb1
  clear hb1
  go_wp2_with fail
  refine (mine_calls a A n c w1).mono ?_
  rintro e w2 ⟨rfl, hb2⟩
  have HG2 := Lib.hid ((hb2.block _ (blk_lt HG1.out)).trans HG1.out)
  have HB2 := Lib.hid (below_then HB1.out HB1.out.size hb2)
  clear hb2 hcl1 hfz1 HG1 HB1
  go_wp2_with fail
  have hEn := F.span_Encode.calls ke a A c l bs ec w2 (Kd.C_below HR.out HB2.out) HLC.out HKE.out
  rw [← HN.out] at hEn
  refine hEn.mono ?_
  rintro e w3 ⟨v3, rfl, ho3, hb3⟩
  obtain ⟨A3, c3, rfl⟩ := Kd.R_slice ho3
  have HC3 := Lib.hid (Kd.R_reads' ho3)
  have HL3 := Lib.hid HC3.out.2.1
  have cc0 : w3.cell? ⟨w.heap.size, 0, none⟩ = some (.int .i64 a) := pw_cell_below hb3 (by rw [blk_cell HG2.out]; rfl)
  have cc1 : w3.cell? ⟨w.heap.size, 1, none⟩ = some (.slice A n c) := pw_cell_below hb3 (by rw [blk_cell HG2.out]; rfl)
  have HG3 := Lib.hid ((hb3.block _ (blk_lt HG2.out)).trans HG2.out)
  have HB3 := Lib.hid (below_then HB2.out HB2.out.size hb3)
  clear hEn ho3 hb3 HG2 HB2
  go_wp2_with fail
  have hEr := F.sawyerref16_Encode.calls kr a A c l bs ec w3 (Kd.C_below HR.out HB3.out) HLC.out HKR.out
  rw [← HN.out] at hEr
  refine hEr.mono ?_
  rintro e w4 ⟨v4, rfl, ho4, hb4⟩
  obtain ⟨A4, c4, rfl⟩ := Kd.R_slice ho4
  have HC34 := Lib.hid (Kd.C_below HC3.out.2.2 hb4)
  have HC4 := Lib.hid (Kd.R_reads' ho4).2.2
  have HL4 := Lib.hid (Kd.R_reads' ho4).2.1
  have HB4 := Lib.hid (below_then HB3.out HB3.out.size hb4)
  clear hEr ho4 hb4 HG3 HB3 HC3 cc0 cc1
  go_wp2_with fail
  have hDe := span_Decode.calls B cb b x1 X xe w4 (Kd.C_below HRB.out HB4.out) HLB.out HXD.out
  rw [← HNB.out] at hDe
  refine hDe.mono ?_
  rintro e w5 ⟨v5, rfl, ho5, hb5⟩
  obtain ⟨A5, c5, rfl⟩ := Kd.R_slice ho5
  have hb5x := below_then hb5 hb5.size ((Below.refl w5.heap.size w5).alloc (Nat.le_refl _) (.cells #[.int .i64 x1, .slice A5 X.length c5] 26))
  have HG5 := Lib.hid (blk_new w5 (.cells #[.int .i64 x1, .slice A5 X.length c5] 26))
  have HC35 := Lib.hid (Kd.C_below HC34.out hb5x)
  have HC45 := Lib.hid (Kd.C_below HC4.out hb5x)
  have HC55 := Lib.hid (Kd.C_alloc (Kd.R_reads' ho5).2.2 (.cells #[.int .i64 x1, .slice A5 X.length c5] 26))
  have HL5 := Lib.hid (Kd.R_reads' ho5).2.1
  have HB5 := Lib.hid (below_then HB4.out HB4.out.size hb5x)
  clear hDe ho5 hb5 hb5x HB4 HC34 HC4
  go_wp2_with fail
  have hDr := F.sawyerref16_Decode.calls kd B cb b x1 X xe _ (Kd.C_below HRB.out HB5.out) HLB.out HKD.out
  rw [← HNB.out] at hDr
  refine hDr.mono ?_
  rintro e w6 ⟨v6, rfl, ho6, hb6⟩
  obtain ⟨A6, c6, rfl⟩ := Kd.R_slice ho6
  have hb6x := below_then hb6 hb6.size ((Below.refl w6.heap.size w6).alloc (Nat.le_refl _) (.cells #[.int .i64 x1, .slice A6 X.length c6] 24))
  have HG6 := Lib.hid (blk_new w6 (.cells #[.int .i64 x1, .slice A6 X.length c6] 24))
  have HG58 := Lib.hid ((hb6x.block _ (blk_lt HG5.out)).trans HG5.out)
  have HC38 := Lib.hid (Kd.C_below HC35.out hb6x)
  have HC48 := Lib.hid (Kd.C_below HC45.out hb6x)
  have HC58 := Lib.hid (Kd.C_below HC55.out hb6x)
  have HC68 := Lib.hid (Kd.C_alloc (Kd.R_reads' ho6).2.2 (.cells #[.int .i64 x1, .slice A6 X.length c6] 24))
  have HL6 := Lib.hid (Kd.R_reads' ho6).2.1
  have HB8 := Lib.hid (below_then HB5.out HB5.out.size hb6x)
  clear hDr ho6 hb6 hb6x HB5 HG5 HC35 HC45 HC55
  go_wp2_with fail
  generalize w6.alloc (.cells #[.int .i64 x1, .slice A6 X.length c6] 24) = W8 at *
  generalize w6.heap.size = g12 at *
  generalize w5.heap.size = g10 at *
  have k0_ : W8.cell? ⟨g10, 0, none⟩ = some (.int .i64 x1) := by rw [blk_cell HG58.out]; rfl
  have k1_ : W8.cell? ⟨g10, 1, none⟩ = some (.slice A5 X.length c5) := by rw [blk_cell HG58.out]; rfl
  have k2_ : W8.cell? ⟨g12, 0, none⟩ = some (.int .i64 x1) := by rw [blk_cell HG6.out]; rfl
  have k3_ : W8.cell? ⟨g12, 1, none⟩ = some (.slice A6 X.length c6) := by rw [blk_cell HG6.out]; rfl
  refine start_ (n := 23) (S := fun w' => w'.cell? ⟨g10, 0, none⟩ = some (.int .i64 x1) ∧ w'.cell? ⟨g10, 1, none⟩ = some (.slice A5 X.length c5) ∧ w'.cell? ⟨g12, 0, none⟩ = some (.int .i64 x1) ∧ w'.cell? ⟨g12, 1, none⟩ = some (.slice A6 X.length c6)) (ds := []) #[false, false, false, false, false, false, false, false, false, false, false, false, false, false, false, false, false, false, false, false, false, false, false] (by kernel_rfl) rfl rfl ⟨by rw [World.cell?_drew]; exact k0_, by rw [World.cell?_drew]; exact k1_, by rw [World.cell?_drew]; exact k2_, by rw [World.cell?_drew]; exact k3_⟩ (fun hHeld => ?_); refine with_tabW sc6_tab sc6_bits (fun HT_ HW_ => ?_)
  have hdv := below_drew1 (Below.refl W8.heap.size W8)
  have HDV := Lib.hid hdv
  clear hdv k0_ k1_ k2_ k3_
  have HBV := Lib.hid (below_then HB8.out HB8.out.size HDV.out)
  have VC3 := Lib.hid (Kd.C_below HC38.out HDV.out)
  have VC4 := Lib.hid (Kd.C_below HC48.out HDV.out)
  have VC5 := Lib.hid (Kd.C_below HC58.out HDV.out)
  have VC6 := Lib.hid (Kd.C_below HC68.out HDV.out)
  generalize W8.drew = V at *
  have HS := Lib.hid hHeld
  refine pure_ (i := 0) (N := some 36) (v := ?_) (a' := ?_) #[true, false, false, false, false, false, false, false, false, false, false, false, false, false, false, false, false, false, false, false, false, false, false] rfl rfl (any_of HT_.out (by kernel_rfl)) (fun _ _ _ h => h) (Or.inl ⟨by rfl, ?_⟩) ?_ ?_
  rotate_left
  · intro w'
    go_simp
    with_reducible rfl
  rotate_left
  · simp only [Act.put, List.setIfInBounds_toArray, List.set_cons_zero, List.set_cons_succ, i64_w, i32_w]
    rfl
  refine pure_ (i := 1) (N := some 37) (v := ?_) (a' := ?_) #[true, true, false, false, false, false, false, false, false, false, false, false, false, false, false, false, false, false, false, false, false, false, false] rfl rfl (any_of HT_.out (by kernel_rfl)) (fun _ _ _ h => h) (Or.inl ⟨by rfl, ?_⟩) ?_ ?_
  rotate_left
  · intro w'
    go_simp
    with_reducible rfl
  rotate_left
  · simp only [Act.put, List.setIfInBounds_toArray, List.set_cons_zero, List.set_cons_succ, i64_w, i32_w]
    rfl
  refine pure_ (i := 2) (N := some 38) (v := ?_) (a' := ?_) #[true, true, true, false, false, false, false, false, false, false, false, false, false, false, false, false, false, false, false, false, false, false, false] rfl rfl (any_of HT_.out (by kernel_rfl)) (fun _ _ _ h => h) (Or.inl ⟨by rfl, ?_⟩) ?_ ?_
  rotate_left
  · intro w'
    go_simp
    with_reducible rfl
  rotate_left
  · simp only [Act.put, List.setIfInBounds_toArray, List.set_cons_zero, List.set_cons_succ, i64_w, i32_w]
    rfl
  refine pure_ (i := 3) (N := some 39) (v := ?_) (a' := ?_) #[true, true, true, true, false, false, false, false, false, false, false, false, false, false, false, false, false, false, false, false, false, false, false] rfl rfl (any_of HT_.out (by kernel_rfl)) (fun _ _ _ h => h) (Or.inl ⟨by rfl, ?_⟩) ?_ ?_
  rotate_left
  · intro w'
    go_simp
    with_reducible rfl
  rotate_left
  · simp only [Act.put, List.setIfInBounds_toArray, List.set_cons_zero, List.set_cons_succ, i64_w, i32_w]
    rfl
  refine pure_ (i := 4) (N := some 40) (v := ?_) (a' := ?_) #[true, true, true, true, true, false, false, false, false, false, false, false, false, false, false, false, false, false, false, false, false, false, false] rfl rfl (any_of HT_.out (by kernel_rfl)) (fun _ _ _ h => h) (Or.inl ⟨by rfl, ?_⟩) ?_ ?_
  rotate_left
  · intro w'
    go_simp
    with_reducible rfl
  rotate_left
  · simp only [Act.put, List.setIfInBounds_toArray, List.set_cons_zero, List.set_cons_succ, i64_w, i32_w]
    rfl
  refine pure_ (i := 5) (N := some 41) (v := ?_) (a' := ?_) #[true, true, true, true, true, true, false, false, false, false, false, false, false, false, false, false, false, false, false, false, false, false, false] rfl rfl (any_of HT_.out (by kernel_rfl)) (fun _ _ _ h => h) (Or.inl ⟨by rfl, ?_⟩) ?_ ?_
  rotate_left
  · intro w'
    go_simp
    with_reducible rfl
  rotate_left
  · simp only [Act.put, List.setIfInBounds_toArray, List.set_cons_zero, List.set_cons_succ, i64_w, i32_w]
    rfl
  refine pure_ (i := 6) (N := some 42) (v := ?_) (a' := ?_) #[true, true, true, true, true, true, true, false, false, false, false, false, false, false, false, false, false, false, false, false, false, false, false] rfl rfl (any_of HT_.out (by kernel_rfl)) (fun _ _ _ h => h) (Or.inl ⟨by rfl, ?_⟩) ?_ ?_
  rotate_left
  · intro w'
    go_simp
    with_reducible rfl
  rotate_left
  · simp only [Act.put, List.setIfInBounds_toArray, List.set_cons_zero, List.set_cons_succ, i64_w, i32_w]
    rfl
  refine pure_ (i := 7) (N := some 43) (v := ?_) (a' := ?_) #[true, true, true, true, true, true, true, true, false, false, false, false, false, false, false, false, false, false, false, false, false, false, false] rfl rfl (any_of HT_.out (by kernel_rfl)) (fun _ _ _ h => h) (Or.inl ⟨by rfl, ?_⟩) ?_ ?_
  rotate_left
  · intro w'
    go_simp
    with_reducible rfl
  rotate_left
  · simp only [Act.put, List.setIfInBounds_toArray, List.set_cons_zero, List.set_cons_succ, i64_w, i32_w]
    rfl
  refine pure_ (i := 8) (N := some 44) (v := ?_) (a' := ?_) #[true, true, true, true, true, true, true, true, true, false, false, false, false, false, false, false, false, false, false, false, false, false, false] rfl rfl (any_of HT_.out (by kernel_rfl)) (fun _ _ _ h => h) (Or.inl ⟨by rfl, ?_⟩) ?_ ?_
  rotate_left
  · intro w'
    go_simp
    with_reducible rfl
  rotate_left
  · simp only [Act.put, List.setIfInBounds_toArray, List.set_cons_zero, List.set_cons_succ, i64_w, i32_w]
    rfl
  refine one_ (i := 9) (N := some 45) #[true, true, true, true, true, true, true, true, true, true, false, false, false, false, false, false, false, false, false, false, false, false, false] rfl rfl (one_of HT_.out (by kernel_rfl)) (by decide) (fun K hK => ?_)
  refine goes_ Try.func25 (by kernel_rfl) rfl #[.slice A3 bs.length c3, .slice A4 bs.length c4] (by rfl) rfl rfl (by simp only [List.map_toArray, List.map_cons, List.map_nil]; rfl) ?_
  refine (F.sawyerref02_Same.calls A3 c3 bs A4 c4 bs true V (Kd.C_below VC3.out (Below.refl V.heap.size V)) HL3.out (Kd.C_below VC4.out (Below.refl V.heap.size V)) HL4.out (same8 bs)).mono ?_
  rintro e Y9 ⟨rfl, hD⟩
  have hD : Below V.heap.size V Y9 := by obtain ⟨nd, rfl⟩ := hD; apply pw_below_drewN; exact Below.refl _ _
  refine ⟨_, rfl, ?_⟩
  have q9 := below_then (Below.refl V.heap.size V) ((Below.refl V.heap.size V)).size hD
  refine hK.out _ _ ⟨pw_cell_below q9 HS.out.1, pw_cell_below q9 HS.out.2.1, pw_cell_below q9 HS.out.2.2.1, pw_cell_below q9 HS.out.2.2.2⟩ (fun hHeld => ?_)
  clear hD
  clear hK K
  refine pure_ (i := 10) (N := some 46) (v := ?_) (a' := ?_) #[true, true, true, true, true, true, true, true, true, true, true, false, false, false, false, false, false, false, false, false, false, false, false] rfl rfl (any_of HT_.out (by kernel_rfl)) (fun _ _ _ h => h) (Or.inl ⟨by rfl, ?_⟩) ?_ ?_
  rotate_left
  · intro w'
    go_simp
    with_reducible rfl
  rotate_left
  · simp only [Act.put, List.setIfInBounds_toArray, List.set_cons_zero, List.set_cons_succ, i64_w, i32_w]
    rfl
  refine pure_ (i := 11) (N := some 47) (v := ?_) (a' := ?_) #[true, true, true, true, true, true, true, true, true, true, true, true, false, false, false, false, false, false, false, false, false, false, false] rfl rfl (any_of HT_.out (by kernel_rfl)) (fun _ _ _ h => h) (Or.inl ⟨by rfl, ?_⟩) ?_ ?_
  rotate_left
  · intro w'
    go_simp
    with_reducible rfl
  rotate_left
  · simp only [Act.put, List.setIfInBounds_toArray, List.set_cons_zero, List.set_cons_succ, i64_w, i32_w]
    rfl
  refine pure_ (i := 12) (N := some 48) (v := ?_) (a' := ?_) #[true, true, true, true, true, true, true, true, true, true, true, true, true, false, false, false, false, false, false, false, false, false, false] rfl rfl (any_of HT_.out (by kernel_rfl)) (fun _ _ _ h => h) (Or.inl ⟨by rfl, ?_⟩) ?_ ?_
  rotate_left
  · intro w'
    go_simp
    with_reducible rfl
  rotate_left
  · simp only [Act.put, List.setIfInBounds_toArray, List.set_cons_zero, List.set_cons_succ, i64_w, i32_w]
    rfl
  refine pure_ (i := 13) (N := some 49) (v := ?_) (a' := ?_) #[true, true, true, true, true, true, true, true, true, true, true, true, true, true, false, false, false, false, false, false, false, false, false] rfl rfl (any_of HT_.out (by kernel_rfl)) (fun _ _ _ h => h) (Or.inl ⟨by rfl, ?_⟩) ?_ ?_
  rotate_left
  · intro w'
    go_simp
    with_reducible rfl
  rotate_left
  · simp only [Act.put, List.setIfInBounds_toArray, List.set_cons_zero, List.set_cons_succ, i64_w, i32_w]
    rfl
  refine pure_ (i := 14) (N := some 50) (v := ?_) (a' := ?_) #[true, true, true, true, true, true, true, true, true, true, true, true, true, true, true, false, false, false, false, false, false, false, false] rfl rfl (any_of HT_.out (by kernel_rfl)) (fun _ _ _ h => h) (Or.inl ⟨by rfl, ?_⟩) ?_ ?_
  rotate_left
  · intro w'
    go_simp
    with_reducible rfl
  rotate_left
  · simp only [Act.put, List.setIfInBounds_toArray, List.set_cons_zero, List.set_cons_succ, i64_w, i32_w]
    rfl
  refine pure_ (i := 15) (N := some 51) (v := ?_) (a' := ?_) #[true, true, true, true, true, true, true, true, true, true, true, true, true, true, true, true, false, false, false, false, false, false, false] rfl rfl (any_of HT_.out (by kernel_rfl)) (fun _ _ _ h => h) (Or.inl ⟨by rfl, ?_⟩) ?_ ?_
  rotate_left
  · intro w'
    go_simp
    with_reducible rfl
  rotate_left
  · simp only [Act.put, List.setIfInBounds_toArray, List.set_cons_zero, List.set_cons_succ, i64_w, i32_w]
    rfl
  refine pure_ (i := 16) (N := some 52) (v := ?_) (a' := ?_) #[true, true, true, true, true, true, true, true, true, true, true, true, true, true, true, true, true, false, false, false, false, false, false] rfl rfl (any_of HT_.out (by kernel_rfl)) (fun _ _ _ h => h) (Or.inl ⟨by rfl, ?_⟩) ?_ ?_
  rotate_left
  · intro w'
    go_simp
    with_reducible rfl
  rotate_left
  · simp only [Act.put, List.setIfInBounds_toArray, List.set_cons_zero, List.set_cons_succ, i64_w, i32_w]
    rfl
  refine take_ (i := 17) (N := some 53) (v := ?_) (a' := ?_) #[true, true, true, true, true, true, true, true, true, true, true, true, true, true, true, true, true, true, false, false, false, false, false] rfl rfl (take_ofW HT_.out HW_.out (by kernel_rfl)) (fun _ _ _ h => h) (Or.inl ⟨by rfl, ?_⟩) hHeld ?_ ?_
  rotate_left
  · rintro w' ⟨s0, s1, s2, s3⟩
    go_simp
    with_reducible rfl
  rotate_left
  · simp only [Act.put, List.setIfInBounds_toArray, List.set_cons_zero, List.set_cons_succ, i64_w, i32_w]
    rfl
  refine take_ (i := 19) (N := some 55) (v := ?_) (a' := ?_) #[true, true, true, true, true, true, true, true, true, true, true, true, true, true, true, true, true, true, false, true, false, false, false] rfl rfl (take_ofW HT_.out HW_.out (by kernel_rfl)) (fun _ _ _ h => h) (Or.inl ⟨by rfl, ?_⟩) hHeld ?_ ?_
  rotate_left
  · rintro w' ⟨s0, s1, s2, s3⟩
    go_simp
    with_reducible rfl
  rotate_left
  · simp only [Act.put, List.setIfInBounds_toArray, List.set_cons_zero, List.set_cons_succ, i64_w, i32_w]
    rfl
  refine one_ (i := 18) (N := some 54) #[true, true, true, true, true, true, true, true, true, true, true, true, true, true, true, true, true, true, true, true, false, false, false] rfl rfl (one_of HT_.out (by kernel_rfl)) (by decide) (fun K hK => ?_)
  refine goes_ Try.func15 (by kernel_rfl) rfl #[.agg #[.int .i64 x1, .slice A5 X.length c5]] (by rfl) rfl rfl (by simp only [List.map_toArray, List.map_cons, List.map_nil]; rfl) ?_
  refine (theirs_calls x1 A5 X.length c5 Y9).mono ?_
  rintro e Y18 ⟨rfl, hD⟩
  refine ⟨_, rfl, ?_⟩
  have q18 := below_then q9 (q9).size hD
  refine hK.out _ _ ⟨pw_cell_below q18 HS.out.1, pw_cell_below q18 HS.out.2.1, pw_cell_below q18 HS.out.2.2.1, pw_cell_below q18 HS.out.2.2.2⟩ (fun hHeld => ?_)
  clear hD
  clear hK K
  refine one_ (i := 20) (N := some 56) #[true, true, true, true, true, true, true, true, true, true, true, true, true, true, true, true, true, true, true, true, true, false, false] rfl rfl (one_of HT_.out (by kernel_rfl)) (by decide) (fun K hK => ?_)
  refine goes_ Try.func14 (by kernel_rfl) rfl #[.agg #[.int .i64 x1, .slice A5 X.length c5], .agg #[.int .i64 x1, .slice A6 X.length c6]] (by rfl) rfl rfl (by simp only [List.map_toArray, List.map_cons, List.map_nil]; rfl) ?_
  refine (F.sawyerref16_Same.calls ks x1 A5 c5 X x1 A6 c6 X true Y18 (Kd.C_below VC5.out q18) HL5.out (Kd.C_below VC6.out q18) HL6.out HKS.out).mono ?_
  rintro e Y20 ⟨rfl, hD⟩
  refine ⟨_, rfl, ?_⟩
  have q20 := below_then q18 (q18).size hD
  refine hK.out _ _ ⟨pw_cell_below q20 HS.out.1, pw_cell_below q20 HS.out.2.1, pw_cell_below q20 HS.out.2.2.1, pw_cell_below q20 HS.out.2.2.2⟩ (fun hHeld => ?_)
  clear hD
  clear hK K
  refine pure_ (i := 21) (N := some 57) (v := ?_) (a' := ?_) #[true, true, true, true, true, true, true, true, true, true, true, true, true, true, true, true, true, true, true, true, true, true, false] rfl rfl (any_of HT_.out (by kernel_rfl)) (fun _ _ _ h => h) (Or.inl ⟨by rfl, ?_⟩) ?_ ?_
  rotate_left
  · intro w'
    go_simp
    with_reducible rfl
  rotate_left
  · simp only [Act.put, List.setIfInBounds_toArray, List.set_cons_zero, List.set_cons_succ, i64_w, i32_w]
    rfl
  refine pure_ (i := 22) (N := some 4) (v := ?_) (a' := ?_) #[true, true, true, true, true, true, true, true, true, true, true, true, true, true, true, true, true, true, true, true, true, true, true] rfl rfl (any_of HT_.out (by kernel_rfl)) (fun _ _ _ h => h) (Or.inl ⟨by rfl, ?_⟩) ?_ ?_
  rotate_left
  · intro w'
    go_simp
    with_reducible rfl
  rotate_left
  · simp only [Act.put, List.setIfInBounds_toArray, List.set_cons_zero, List.set_cons_succ, i64_w, i32_w]
    rfl
  refine done_ (done_of HT_.out (by kernel_rfl)) ?_
  have hend := below_then HBV.out HBV.out.size q20
  go_wp2
  go_ret
  exact ⟨rfl, hend⟩
end Go.Proofs.Ytoihdghoopgdfaa
end
