-- JOINED BY A PROGRAM OF THIS PLACE (wip/tools/pack.py) out of: PureBloomSize
import Derived.Test.YtojabcadoajbjaaK16
import Derived.Test.YtojabcadoajbjaaK17
section
/-
  The plain statement of BloomSize: ten bits a key, at most six of them set a key.
-/
namespace Go.Proofs.Ytojabcadoajbjaa.Pure
open Go.RowKit Go.Proofs.Ytojabcadoajbjaa Go.Proofs.Ytojabcadoajbjaa.F Go.Proofs.YtojabcadoajbjaaW.PrintWords Go.Proofs.YtojabcadoajbjaaW.PrintLast Go.Proofs.YtojabcadoajbjaaW.PrintMore
set_option linter.unusedVariables false
set_option linter.unusedSimpArgs false
set_option maxHeartbeats 1000000
def bitK (x : Int) (k : Nat) : Nat := (x / 2 ^ k % 2).toNat
/-- the bits of x from k on, d of them -/
def pcs (x : Int) (k : Nat) : Nat → Nat
  | 0 => 0
  | d + 1 => bitK x k + pcs x (k + 1) d
def pc (x : Int) : Nat := pcs x 0 8
def cnt (l : List Int) : Nat := (l.map pc).sum
def by8 (l : List Int) : Prop := ∀ x ∈ l, 0 ≤ x ∧ x < 256
theorem wrap_nat (n : Nat) (h : n ≤ 5000000000000000000) : wrap64 (n : Int) = (n : Int) := by
  unfold wrap64
  omega
theorem sm1 (k d : Nat) (hk : k + (d + 1) = 8) : wrap64 ((k : Int) + 1) = ((k + 1 : Nat) : Int) := by
  unfold wrap64
  omega
theorem sm2 (k d : Nat) (hk : k + (d + 1) = 8) : k + 1 + d = 8 := by omega
theorem sm3 (c b d : Nat) (hc : c + (d + 1) ≤ 4000000000000000000) (h2 : b ≤ 1) : c + b + d ≤ 4000000000000000000 := by omega
theorem sm4 (k d : Nat) (hk : k + (d + 1) = 8) : (k : Int) < 8 := by omega
theorem sm5 (n : Nat) (h : n ≤ 140737488351232) : n ≤ 140737488354000 := by omega
theorem sm6 (n : Nat) (h : n * 24 ≤ 140737488351232) : n ≤ 5864062014700 := by omega
theorem w_add (c b d : Nat) (hc : c + (d + 1) ≤ 4000000000000000000) (h2 : b ≤ 1) : wrap64 ((c : Int) + wrap64 (b : Int)) = ((c + b : Nat) : Int) := by
  rw [wrap_nat b (by omega)]
  have := wrap_nat (c + b) (by omega)
  rwa [Int.natCast_add] at this
theorem pcs_le (x : Int) (d : Nat) : ∀ k, pcs x k d ≤ d := by
  induction d with
  | zero => intro k; exact Nat.le_refl _
  | succ d ih => intro k; have := ih (k + 1); simp only [pcs]; unfold bitK; omega
theorem bit_word : ∀ x : Fin 256, ∀ k : Fin 8, Go.bits .and .u8 (shr .u8 ((x.val : Nat) : Int) ((k.val : Nat) : Int)) 1 = (bitK ((x.val : Nat) : Int) k.val : Int) := by decide +kernel
theorem or_word : ∀ x : Fin 256, ∀ r : Fin 8, pc (Go.bits .or .u8 ((x.val : Nat) : Int) (IntKind.u8.wrap (2 ^ min r.val 8))) ≤ pc ((x.val : Nat) : Int) + 1 ∧ 1 ≤ pc (Go.bits .or .u8 ((x.val : Nat) : Int) (IntKind.u8.wrap (2 ^ min r.val 8))) ∧ pc ((x.val : Nat) : Int) ≤ pc (Go.bits .or .u8 ((x.val : Nat) : Int) (IntKind.u8.wrap (2 ^ min r.val 8))) := by decide +kernel
theorem or_pc (x p : Int) (hx : 0 ≤ x ∧ x < 256) (hp : 0 ≤ p) : pc (Go.bits .or .u8 x (mask p)) ≤ pc x + 1 ∧ 1 ≤ pc (Go.bits .or .u8 x (mask p)) ∧ pc x ≤ pc (Go.bits .or .u8 x (mask p)) := by
  have h0 := Int.tmod_nonneg 8 hp
  have h1 := Int.tmod_lt_of_pos p (show (0 : Int) < 8 by decide)
  have := or_word ⟨x.toNat, by omega⟩ ⟨(Int.tmod p 8).toNat, by omega⟩
  rw [show ((x.toNat : Nat) : Int) = x by omega] at this
  exact this
theorem cnt_set (l : List Int) (i : Nat) (v : Int) (hi : i < l.length) : cnt (l.set i v) + pc (l.getD i 0) = cnt l + pc v := by
  induction l generalizing i with
  | nil => simp at hi
  | cons x l ih =>
    cases i with
    | zero => simp [cnt]; omega
    | succ i =>
      have := ih i (by simpa using hi)
      simp only [cnt, List.set_cons_succ, List.map_cons, List.sum_cons, List.getD_cons_succ] at this ⊢
      omega
theorem cnt_pos (l : List Int) (i : Nat) (hi : i < l.length) : pc (l.getD i 0) ≤ cnt l := by
  induction l generalizing i with
  | nil => simp at hi
  | cons x l ih =>
    cases i with
    | zero => simp [cnt]
    | succ i =>
      have := ih i (by simpa using hi)
      simp only [cnt, List.map_cons, List.sum_cons, List.getD_cons_succ] at this ⊢
      omega
theorem setBit_cnt (l : List Int) (p : Int) (hl : by8 l) (hp : 0 ≤ p) (hi : (Int.tdiv p 8).toNat < l.length) : cnt (setBit l p) ≤ cnt l + 1 ∧ 1 ≤ cnt (setBit l p) ∧ by8 (setBit l p) := by
  have hx : 0 ≤ l.getD (Int.tdiv p 8).toNat 0 ∧ l.getD (Int.tdiv p 8).toNat 0 < 256 := by
    rw [List.getD_eq_getElem?_getD, List.getElem?_eq_getElem hi]
    exact hl _ (List.getElem_mem hi)
  have ho := or_pc _ p hx hp
  have hs := cnt_set l (Int.tdiv p 8).toNat (Go.bits .or .u8 (rd l (Int.tdiv p 8)) (mask p)) hi
  have hq := cnt_pos (setBit l p) (Int.tdiv p 8).toNat (by unfold setBit; rw [List.length_set]; exact hi)
  have hg : (setBit l p).getD (Int.tdiv p 8).toNat 0 = Go.bits .or .u8 (rd l (Int.tdiv p 8)) (mask p) := by
    unfold setBit
    rw [List.getD_eq_getElem?_getD, List.getElem?_set_self hi]
    rfl
  rw [hg] at hq
  have e : rd l (Int.tdiv p 8) = l.getD (Int.tdiv p 8).toNat 0 := rfl
  rw [e] at hs hq
  refine ⟨?_, ?_, ?_⟩
  · unfold setBit; rw [e]; omega
  · have := ho.2.1; omega
  · intro y hy
    unfold setBit at hy
    rcases List.mem_or_eq_of_mem_set hy with hy | rfl
    · exact hl y hy
    · have h1 := bits_lo_u8 .or (rd l (Int.tdiv p 8)) (mask p)
      have h2 := bits_hi_u8 .or (rd l (Int.tdiv p 8)) (mask p)
      omega
theorem setKey_cnt (l : List Int) (key : List Int) (n : Nat) (hn : 0 < n) (hn2 : n ≤ 281474976710656) (hl : by8 l) (hlen : l.length = n) (k : Nat) :
    cnt (setKey l (crcOf key) (c1u (crcOf (key ++ [1]))) (8 * (n : Int)) k) ≤ cnt l + k ∧ (1 ≤ k → 1 ≤ cnt (setKey l (crcOf key) (c1u (crcOf (key ++ [1]))) (8 * (n : Int)) k)) ∧ by8 (setKey l (crcOf key) (c1u (crcOf (key ++ [1]))) (8 * (n : Int)) k) := by
  induction k with
  | zero => exact ⟨Nat.le_refl _, fun h => by omega, hl⟩
  | succ k ih =>
    obtain ⟨q0, q1, _⟩ := keyAt_div key n k hn hn2
    have h := setBit_cnt (setKey l (crcOf key) (c1u (crcOf (key ++ [1]))) (8 * (n : Int)) k) (keyAt key (8 * (n : Int)) k) ih.2.2 (keyAt_nonneg _ _ _) (by rw [setKey_length, hlen]; omega)
    rw [setKey]
    exact ⟨Nat.le_trans h.1 (by have := ih.1; omega), fun _ => h.2.1, h.2.2⟩
theorem setAll_cnt (keys : List (List Int)) (n : Nat) (hn : 0 < n) (hn2 : n ≤ 281474976710656) : ∀ l : List Int, by8 l → l.length = n →
    cnt (setAll crcOf (8 * (n : Int)) l keys) ≤ cnt l + 6 * keys.length ∧ by8 (setAll crcOf (8 * (n : Int)) l keys) ∧ (keys ≠ [] → 1 ≤ cnt (setAll crcOf (8 * (n : Int)) l keys)) := by
  induction keys with
  | nil => intro l hl hlen; exact ⟨by simp [setAll], hl, fun h => absurd rfl h⟩
  | cons key keys ih =>
    intro l hl hlen
    have h := setKey_cnt l key n hn hn2 hl hlen 6
    have h2 := ih _ h.2.2 (by rw [setKey_length]; exact hlen)
    refine ⟨?_, h2.2.1, fun _ => ?_⟩
    · have := h2.1
      have := h.1
      simp only [setAll, List.foldl_cons, List.length_cons] at *
      omega
    · cases keys with
      | nil => exact h.2.1 (by decide)
      | cons k ks => exact h2.2.2 (by simp)
theorem cnt_zeros (n : Nat) : cnt (List.replicate n 0) = 0 := by
  induction n with
  | zero => rfl
  | succ n ih =>
    rw [List.replicate_succ]
    simp only [cnt, List.map_cons, List.sum_cons] at ih ⊢
    rw [ih]
    decide
theorem zeros_by8 (n : Nat) : by8 (List.replicate n 0) := by
  intro x hx
  rw [List.eq_of_mem_replicate hx]
  decide
theorem build_cnt (keys : List (List Int)) (hk : keys.length ≤ 5864062014700) : cnt (buildB keys) ≤ 6 * keys.length ∧ by8 (buildB keys) ∧ (keys ≠ [] → 1 ≤ cnt (buildB keys)) ∧ (keys = [] → cnt (buildB keys) = 0) := by
  have hsz : 8 ≤ sizeOf_ keys.length ∧ sizeOf_ keys.length ≤ 281474976710656 := by unfold sizeOf_; omega
  have h := setAll_cnt keys (sizeOf_ keys.length) (by omega) hsz.2 (List.replicate (sizeOf_ keys.length) 0) (zeros_by8 _) List.length_replicate
  rw [cnt_zeros] at h
  refine ⟨by simpa [buildB] using h.1, h.2.1, h.2.2, fun e => ?_⟩
  have := h.1
  unfold buildB
  rw [e] at this ⊢
  simpa using this
theorem count_inner (keys : List (List Int)) (t : List Int) (ht : by8 t) (i : Nat) (hi : i < t.length) (R : Bool) (d : Nat) : ∀ (k c : Nat), k + d = 8 → c + d ≤ 4000000000000000000 →
    Ev (fun n => sawyerlaw07_BloomSize.l0 n keys true t ((c + pcs (t.getD i 0) k d : Nat) : Int) (wrap64 ((i : Int) + 1))) R → Ev (fun n => sawyerlaw07_BloomSize.l1 n keys true t (c : Int) (i : Int) (k : Int)) R := by
  induction d with
  | zero =>
    intro k c hk hc h
    refine Ev.step (fun n => ?_) h
    simp only [sawyerlaw07_BloomSize.l1]
    rw [if_neg (by omega)]
    rfl
  | succ d ih =>
    intro k c hk hc h
    have hx : 0 ≤ t.getD i 0 ∧ t.getD i 0 < 256 := by
      rw [List.getD_eq_getElem?_getD, List.getElem?_eq_getElem hi]
      exact ht _ (List.getElem_mem hi)
    have hb := bit_word ⟨(t.getD i 0).toNat, by omega⟩ ⟨k, by omega⟩
    rw [show (((t.getD i 0).toNat : Nat) : Int) = t.getD i 0 by omega] at hb
    have h2 : bitK (t.getD i 0) k ≤ 1 := by unfold bitK; omega
    have h3 : pcs (t.getD i 0) k (d + 1) = bitK (t.getD i 0) k + pcs (t.getD i 0) (k + 1) d := rfl
    rw [h3] at h
    generalize bitK (t.getD i 0) k = b at hb h2 h
    clear h3 hx
    have r1 : rd t (i : Int) = t.getD i 0 := by unfold rd; rw [Int.toNat_natCast]
    have hih := ih (k + 1) (c + b) (sm2 k d hk) (sm3 c b d hc h2) (by rw [Nat.add_assoc]; exact h)
    clear ih h ht
    refine Ev.step (fun n => ?_) hih
    clear hih
    rw [sawyerlaw07_BloomSize.l1, if_pos (sm4 k d hk), if_pos (Int.natCast_nonneg i), if_pos (Int.ofNat_lt.2 hi), if_pos (Int.natCast_nonneg k), r1, hb, sm1 k d hk, w_add c b d hc h2]
theorem count_from (keys : List (List Int)) (t : List Int) (ht : by8 t) (htl : t.length ≤ 281474976710656) (R : Bool) (d : Nat) : ∀ (i c : Nat), i + d = t.length → c ≤ 8 * i →
    Ev (fun n => sawyerlaw07_BloomSize.l0 n keys true t ((c + cnt (t.drop i) : Nat) : Int) ((t.length : Nat) : Int)) R → Ev (fun n => sawyerlaw07_BloomSize.l0 n keys true t (c : Int) (i : Int)) R := by
  induction d with
  | zero =>
    intro i c hi hc h
    rw [List.drop_eq_nil_of_le (by omega)] at h
    rw [show i = t.length by omega]
    exact h
  | succ d ih =>
    intro i c hi hc h
    have h1 : i < t.length := by omega
    have hp := pcs_le (t.getD i 0) 8 0
    have e : cnt (t.drop i) = pcs (t.getD i 0) 0 8 + cnt (t.drop (i + 1)) := by
      rw [List.drop_eq_getElem_cons h1, List.getD_eq_getElem?_getD, List.getElem?_eq_getElem h1]
      simp only [cnt, List.map_cons, List.sum_cons, Option.getD_some, pc]
    refine Ev.step (fun n => ?_) (count_inner keys t ht i h1 R 8 0 c rfl (by omega) (by
      rw [show wrap64 ((i : Int) + 1) = ((i + 1 : Nat) : Int) by unfold wrap64; omega]
      exact ih (i + 1) _ (by omega) (by omega) (by rw [Nat.add_assoc, ← e]; exact h)))
    simp only [sawyerlaw07_BloomSize.l0]
    rw [if_pos (by omega)]
    rfl
theorem BloomSize (l : List (List Int)) (y1 : l.length * 24 ≤ 140737488351232) (y2 : ∀ r ∈ l, r.length ≤ 140737488351232) (hb : ∀ r ∈ l, ∀ x ∈ r, 0 ≤ x ∧ x < 256) : ∃ k, sawyerlaw07_BloomSize.f k l = some true := by
  have h2 : ∀ r ∈ l, r.length ≤ 140737488354000 := fun r hr => sm5 _ (y2 r hr)
  have hl : l.length ≤ 5864062014700 := sm6 _ y1
  clear y1
  obtain ⟨c1, c2, c3, c4⟩ := build_cnt l hl
  have hlen := buildB_length l
  have hsz : sizeOf_ l.length = max 8 ((10 * l.length + 7) / 8) := rfl
  refine Ev.rounds ?_
  refine Ev.congr (f := fun k => sawyerlaw07_BloomSize.l0 k l true (buildB l) ((0 : Nat) : Int) ((0 : Nat) : Int)) (fun k => ?_) (count_from l (buildB l) c2 (by omega) true (buildB l).length 0 0 (by omega) (by omega) ?_)
  · simp only [sawyerlaw07_BloomSize.f, awake_some, Option.bind_some, build_some l h2 hl]
    rfl
  · rw [List.drop_zero, Nat.zero_add]
    refine Ev.step (f := fun _ => some true) (fun k => ?_) (Ev.now _)
    have w1 : wrap64 (8 * ((buildB l).length : Int)) = 8 * ((buildB l).length : Int) := by unfold wrap64; omega
    have w2 : wrap64 (10 * (l.length : Int)) = 10 * (l.length : Int) := by unfold wrap64; omega
    have w3 : wrap64 (6 * (l.length : Int)) = 6 * (l.length : Int) := by unfold wrap64; omega
    have w4 : wrap64 (10 * (l.length : Int) + 8) = 10 * (l.length : Int) + 8 := by unfold wrap64; omega
    have fin : (((l.length : Int) == 0) == (((cnt (buildB l) : Nat) : Int) == 0)) = true := by
      by_cases e : l = []
      · rw [c4 e, e]; rfl
      · have h3 := c3 e
        have h4 : l.length ≠ 0 := fun h => e (List.eq_nil_of_length_eq_zero h)
        rw [show ((l.length : Int) == 0) = false from beq_eq_false_iff_ne.2 (by omega), show (((cnt (buildB l) : Nat) : Int) == 0) = false from beq_eq_false_iff_ne.2 (by omega)]
        rfl
    simp only [sawyerlaw07_BloomSize.l0, w1, w2, w3, w4, if_true]
    rw [if_neg (by omega), if_pos (by omega), if_pos (by omega)]
    by_cases h8 : ((buildB l).length : Int) = 8
    · rw [if_pos h8, if_pos (by omega), fin]
    · rw [if_neg h8, if_pos (by omega), if_pos (by omega), fin]
end Go.Proofs.Ytojabcadoajbjaa.Pure
end
