-- JOINED BY A PROGRAM OF THIS PLACE (wip/tools/pack.py) out of: Ref01 F11 F16 F17 F19
import Derived.Test.YtoihdghoopgdfaaX22
import Derived.Test.YtoihdghoopgdfaaX25
import Derived.Test.YtoihdghoopgdfaaX28
section
/-
  The document's own answer (sawyerref01.Sum) is the hash of the plain text Sha, too: plain lists, no program.
-/
namespace Go.Proofs.Ytoihdghoopgdfaa.F
open Go.RowKit Go.Proofs.YtoihdghoopgdfaaW.PrintWords Go.Proofs.YtoihdghoopgdfaaW.PrintLast Go.Proofs.YtoihdghoopgdfaaW.PrintMore
set_option linter.unusedVariables false
set_option linter.unusedSimpArgs false
theorem w64 (x : Int) (h0 : -9223372036854775808 ≤ x) (h1 : x ≤ 9223372036854775807) : wrap64 x = x := by unfold wrap64; omega
theorem bits_or_comm (x y : Int) : Go.bits .or .u32 x y = Go.bits .or .u32 y x := by
  simp only [Go.bits, BitVec.or_comm]
theorem turned_is (x : Int) (n : Nat) (h0 : 0 < n) (h : n ≤ 32) : sawyerref01_turned.f x (n : Int) = some (Sha.rot x n) := by
  unfold sawyerref01_turned.f
  rw [if_pos (by omega), w64 _ (by omega) (by omega), if_pos (by omega)]
  congr 1
  unfold Sha.rot shr shl
  rw [bits_or_comm, IntKind.wrap_u32]
  have e1 : min (n : Int).toNat (IntKind.bits .u32) = n := by show min (n : Int).toNat 32 = n; omega
  have e2 : min (32 - (n : Int)).toNat (IntKind.bits .u32) = 32 - n := by show min (32 - (n : Int)).toNat 32 = 32 - n; omega
  rw [e1, e2]
theorem rd_nat (l : List Int) (i : Nat) : rd l (i : Int) = l.getD i 0 := by simp [rd]
theorem words_l1 (d : Nat) : ∀ (t : Nat) (p : List Int), t + d = 64 → 16 ≤ t → p.length = t → Ev (fun k => sawyerref01_words.l1 k p (t : Int)) (Sha.ext d p) := by
  induction d with
  | zero =>
    intro t p ht h16 hp
    refine Ev.step (f := fun _ => some p) (fun k => ?_) (Ev.now _)
    simp only [sawyerref01_words.l1]
    rw [if_neg (by omega)]
  | succ d ih =>
    intro t p ht h16 hp
    have := ih (t + 1) (p ++ [Sha.next p]) (by omega) (by omega) (by simp [hp])
    refine Ev.step (fun k => ?_) this
    simp only [sawyerref01_words.l1]
    rw [if_pos (by omega)]
    rw [show wrap64 ((t : Int) - 15) = ((t - 15 : Nat) : Int) by rw [w64 _ (by omega) (by omega)]; omega, show wrap64 ((t : Int) - 2) = ((t - 2 : Nat) : Int) by rw [w64 _ (by omega) (by omega)]; omega, show wrap64 ((t : Int) - 16) = ((t - 16 : Nat) : Int) by rw [w64 _ (by omega) (by omega)]; omega, show wrap64 ((t : Int) - 7) = ((t - 7 : Nat) : Int) by rw [w64 _ (by omega) (by omega)]; omega, show wrap64 ((t : Int) + 1) = ((t + 1 : Nat) : Int) by rw [w64 _ (by omega) (by omega)]; omega]
    simp only [rd_nat]
    have e7 := turned_is (p.getD (t - 15) 0) 7 (by omega) (by omega)
    have e18 := turned_is (p.getD (t - 15) 0) 18 (by omega) (by omega)
    have e17 := turned_is (p.getD (t - 2) 0) 17 (by omega) (by omega)
    have e19 := turned_is (p.getD (t - 2) 0) 19 (by omega) (by omega)
    rw [if_pos (by omega), if_pos (by omega), if_pos (by omega), if_pos (by omega)]
    erw [e7, e18, e17, e19]
    simp only [Option.bind_some]
    rw [if_pos (by omega), if_pos (by omega), if_pos (by omega), if_pos (by omega), if_pos (by omega)]
    congr 2
    unfold Sha.next
    rw [hp]
    show [_] = [(p.getD (t - 16) 0 + p.getD (t - 7) 0 + Sha.small0 (p.getD (t - 15) 0) + Sha.small1 (p.getD (t - 2) 0)) % 4294967296]
    unfold Sha.small0 Sha.small1 Sha.xor
    congr 1
    omega
theorem words_l0 (l : List Int) (hl : l.length = 64) (hb : ∀ x ∈ l, 0 ≤ x ∧ x < 256) (d : Nat) : ∀ (i : Nat), i + d = 16 → Ev (fun k => sawyerref01_words.l0 k l (Sha.first i l) (i : Int)) (Sha.words l) := by
  induction d with
  | zero =>
    intro i hi
    obtain rfl : i = 16 := by omega
    refine Ev.step (fun k => ?_) (words_l1 48 16 (Sha.first 16 l) (by omega) (by omega) (Sha.first_length _ _))
    simp only [sawyerref01_words.l0]
    rw [if_neg (by omega)]
    rfl
  | succ d ih =>
    intro i hi
    refine Ev.step (fun k => ?_) (ih (i + 1) (by omega))
    simp only [sawyerref01_words.l0]
    rw [if_pos (by omega)]
    rw [show wrap64 (4 * (i : Int)) = ((4 * i : Nat) : Int) by rw [w64 _ (by omega) (by omega)]; omega]
    rw [show wrap64 (((4 * i : Nat) : Int) + 1) = ((4 * i + 1 : Nat) : Int) by rw [w64 _ (by omega) (by omega)]; omega, show wrap64 (((4 * i : Nat) : Int) + 2) = ((4 * i + 2 : Nat) : Int) by rw [w64 _ (by omega) (by omega)]; omega, show wrap64 (((4 * i : Nat) : Int) + 3) = ((4 * i + 3 : Nat) : Int) by rw [w64 _ (by omega) (by omega)]; omega, show wrap64 ((i : Int) + 1) = ((i + 1 : Nat) : Int) by rw [w64 _ (by omega) (by omega)]; omega]
    simp only [rd_nat]
    rw [if_pos (by omega), if_pos (by omega), if_pos (by omega), if_pos (by omega), if_pos (by omega), if_pos (by omega), if_pos (by omega), if_pos (by omega), if_pos (by rw [Sha.first_length]; omega)]
    congr 1
    show _ ++ [_] = Sha.first i l ++ [Sha.word l i]
    congr 2
    unfold Sha.word
    have hm : ∀ j, j < 64 → 0 ≤ l.getD j 0 ∧ l.getD j 0 < 256 := fun j hj => by
      rw [List.getD_eq_getElem?_getD, List.getElem?_eq_getElem (by omega)]
      exact hb _ (List.getElem_mem _)
    have b0 := hm (4 * i) (by omega)
    have b1 := hm (4 * i + 1) (by omega)
    have b2 := hm (4 * i + 2) (by omega)
    have b3 := hm (4 * i + 3) (by omega)
    omega
theorem words_is (l : List Int) (hl : l.length = 64) (hb : ∀ x ∈ l, 0 ≤ x ∧ x < 256) : Ev (fun k => sawyerref01_words.f k l) (Sha.words l) :=
  words_l0 l hl hb 16 0 (by omega)
theorem take_l1 (s r : List Int) (hs : s.length = 8) (hr : r.length = 8) (d : Nat) : ∀ (i : Nat), i + d = 8 → Ev (fun k => sawyerref01_take.l1 k s r ((List.zipWith (fun x y => (x + y) % 4294967296) s r).take i) (i : Int)) (List.zipWith (fun x y => (x + y) % 4294967296) s r) := by
  induction d with
  | zero =>
    intro i hi
    refine Ev.step (f := fun _ => some _) (fun k => ?_) (Ev.now _)
    simp only [sawyerref01_take.l1]
    rw [if_neg (by omega), List.take_of_length_le (by simp; omega)]
  | succ d ih =>
    intro i hi
    refine Ev.step (fun k => ?_) (ih (i + 1) (by omega))
    simp only [sawyerref01_take.l1]
    rw [if_pos (by omega), if_pos (by omega), if_pos (by omega), if_pos (by omega), if_pos (by simp; omega), show wrap64 ((i : Int) + 1) = ((i + 1 : Nat) : Int) by rw [w64 _ (by omega) (by omega)]; omega]
    simp only [rd_nat]
    congr 1
    have hz : i < (List.zipWith (fun x y => (x + y) % 4294967296) s r).length := by simp; omega
    rw [List.take_succ_eq_append_getElem hz]
    simp [List.getD_eq_getElem?_getD, show i < s.length by omega, show i < r.length by omega]
theorem eight (s : List Int) (h : s.length = 8) : ∃ a b c d e f g i, s = [a, b, c, d, e, f, g, i] := by
  match s, h with
  | [a, b, c, d, e, f, g, i], _ => exact ⟨a, b, c, d, e, f, g, i, rfl⟩
theorem take_l0 (s0 W : List Int) (h0 : s0.length = 8) (hW : W.length = 64) (d : Nat) : ∀ (t : Nat) (s : List Int), t + d = 64 → s.length = 8 →
    Ev (fun k => sawyerref01_take.l0 k s0 W Sha.K s (t : Int)) (List.zipWith (fun x y => (x + y) % 4294967296) s0 (Sha.rounds (Sha.K.drop t) (W.drop t) s)) := by
  induction d with
  | zero =>
    intro t s ht hs
    obtain rfl : t = 64 := by omega
    rw [List.drop_eq_nil_of_le (show Sha.K.length ≤ 64 from Nat.le_refl _)]
    refine Ev.step (fun k => ?_) (take_l1 s0 s h0 hs 8 0 (by omega))
    simp only [sawyerref01_take.l0]
    rw [if_neg (by omega)]
    rfl
  | succ d ih =>
    intro t s ht hs
    obtain ⟨a, b, c, e4, e, f, g, h, rfl⟩ := eight s hs
    have hKl : t < Sha.K.length := show t < 64 by omega
    have hWl : t < W.length := by omega
    have hK : Sha.K.drop t = Sha.K.getD t 0 :: Sha.K.drop (t + 1) := by
      rw [List.drop_eq_getElem_cons hKl, List.getD_eq_getElem?_getD, List.getElem?_eq_getElem hKl]
      rfl
    have hWd : W.drop t = W.getD t 0 :: W.drop (t + 1) := by
      rw [List.drop_eq_getElem_cons hWl, List.getD_eq_getElem?_getD, List.getElem?_eq_getElem hWl]
      rfl
    rw [hK, hWd]
    simp only [Sha.rounds]
    have h2 := ih (t + 1) (Sha.step (Sha.K.getD t 0) (W.getD t 0) [a, b, c, e4, e, f, g, h]) (by omega) (Sha.step_length _ _ _ rfl)
    refine Ev.step (fun k => ?_) h2
    simp only [sawyerref01_take.l0]
    have t6 := turned_is e 6 (by omega) (by omega)
    have t11 := turned_is e 11 (by omega) (by omega)
    have t25 := turned_is e 25 (by omega) (by omega)
    have t2 := turned_is a 2 (by omega) (by omega)
    have t13 := turned_is a 13 (by omega) (by omega)
    have t22 := turned_is a 22 (by omega) (by omega)
    have r0 : rd [a, b, c, e4, e, f, g, h] 0 = a := rfl
    have r1 : rd [a, b, c, e4, e, f, g, h] 1 = b := rfl
    have r2 : rd [a, b, c, e4, e, f, g, h] 2 = c := rfl
    have r3 : rd [a, b, c, e4, e, f, g, h] 3 = e4 := rfl
    have r4 : rd [a, b, c, e4, e, f, g, h] 4 = e := rfl
    have r5 : rd [a, b, c, e4, e, f, g, h] 5 = f := rfl
    have r6 : rd [a, b, c, e4, e, f, g, h] 6 = g := rfl
    have r7 : rd [a, b, c, e4, e, f, g, h] 7 = h := rfl
    simp only [r0, r1, r2, r3, r4, r5, r6, r7, List.length_cons, List.length_nil, rd_nat]
    rw [if_pos (by omega), if_pos (by omega), if_pos (by omega), if_pos (by omega)]
    erw [t6, t11, t25]
    simp only [Option.bind_some]
    rw [if_pos (by omega), if_pos (by omega), if_pos (by omega), if_pos (by omega), if_pos (by omega)]
    erw [t2, t13, t22]
    simp only [Option.bind_some]
    rw [if_pos (by omega), if_pos (by omega), if_pos (by omega), show wrap64 ((t : Int) + 1) = ((t + 1 : Nat) : Int) by rw [w64 _ (by omega) (by omega)]; omega]
    congr 1
    show [_, _, _, _, _, _, _, _] = Sha.step (Sha.K.getD t 0) (W.getD t 0) [a, b, c, e4, e, f, g, h]
    unfold Sha.step Sha.x1 Sha.y1 Sha.big0 Sha.big1 Sha.ch Sha.maj Sha.xor Sha.and
    rw [show IntKind.u32.max = 4294967295 from rfl]
    congr 1
    · omega
    · congr 4
      omega
theorem take_is (s b : List Int) (hs : s.length = 8) (hl : b.length = 64) (hb : ∀ x ∈ b, 0 ≤ x ∧ x < 256) : Ev (fun k => sawyerref01_take.f k s b) (Sha.take s b) := by
  unfold sawyerref01_take.f
  refine Ev.bind (words_is b hl hb) ?_
  have ht : sawyerref01_table.f = some Sha.K := rfl
  simp only [ht, Option.bind_some, List.nil_append, List.length_nil]
  exact Ev.congr (fun k => by rw [if_pos (by omega)]; rfl) (take_l0 s (Sha.words b) hs (Sha.words_length b) 64 0 s (by omega) hs)
/-! ### Sum, loop by loop -/
theorem sum_l3 (s : List Int) (hs : s.length = 8) (d : Nat) : ∀ (i : Nat), i + d = 8 → Ev (fun k => sawyerref01_Sum.l3 k s (Sha.out (s.take i)) (i : Int)) (strOfNums (Sha.out s)) := by
  induction d with
  | zero =>
    intro i hi
    refine Ev.step (f := fun _ => some _) (fun k => ?_) (Ev.now _)
    simp only [sawyerref01_Sum.l3]
    rw [if_neg (by omega), List.take_of_length_le (by omega)]
  | succ d ih =>
    intro i hi
    refine Ev.step (fun k => ?_) (ih (i + 1) (by omega))
    simp only [sawyerref01_Sum.l3]
    rw [if_pos (by omega), if_pos (by omega), if_pos (by omega)]
    simp only [Option.bind_some, rd_nat]
    rw [if_pos (by rw [Sha.out_length]; simp; omega), show wrap64 ((i : Int) + 1) = ((i + 1 : Nat) : Int) by rw [w64 _ (by omega) (by omega)]; omega]
    congr 1
    have ho : Sha.out (s.take i ++ [s[i]'(by omega)]) = Sha.out (s.take i) ++ Sha.bytes4 (s[i]'(by omega)) := by unfold Sha.out; rw [List.flatMap_append]; simp
    rw [List.take_succ_eq_append_getElem (show i < s.length by omega), ho, List.getD_eq_getElem?_getD, List.getElem?_eq_getElem (by omega)]
    rfl
theorem blocks_step' (p s : List Int) (h : 64 ≤ p.length) : Sha.blocks (p.length / 64) p s = Sha.blocks ((p.drop 64).length / 64) (p.drop 64) (Sha.take s (p.take 64)) := by
  rw [List.length_drop, show p.length / 64 = (p.length - 64) / 64 + 1 by omega]
  rfl
theorem sum_l2 (p : List Int) (hm : p.length % 64 = 0) (hl : p.length ≤ 140737488355328) (hb : ∀ x ∈ p, 0 ≤ x ∧ x < 256) (d : Nat) : ∀ (i : Nat) (s : List Int), 64 * (i + d) = p.length → s.length = 8 →
    Ev (fun k => sawyerref01_Sum.l2 k p s ((64 * i : Nat) : Int)) (strOfNums (Sha.out (Sha.blocks ((p.drop (64 * i)).length / 64) (p.drop (64 * i)) s))) := by
  induction d with
  | zero =>
    intro i s hi hs
    have hd : p.drop (64 * i) = [] := List.drop_eq_nil_of_le (by omega)
    rw [hd]
    refine Ev.step (fun k => ?_) (sum_l3 s hs 8 0 (by omega))
    simp only [sawyerref01_Sum.l2]
    rw [if_neg (by omega)]
    rfl
  | succ d ih =>
    intro i s hi hs
    have hlen : 64 ≤ (p.drop (64 * i)).length := by rw [List.length_drop]; omega
    have hT := take_is s ((p.drop (64 * i)).take 64) hs (by rw [List.length_take]; omega) (fun x hx => hb x (List.mem_of_mem_drop (List.mem_of_mem_take hx)))
    have h2 := ih (i + 1) (Sha.take s ((p.drop (64 * i)).take 64)) (by omega) (Sha.take_length _ _ hs)
    rw [blocks_step' _ _ hlen]
    have e1 : (p.drop (64 * i)).drop 64 = p.drop (64 * (i + 1)) := by rw [List.drop_drop]; rfl
    rw [e1]
    refine Ev.step (fun k => ?_) (Ev.bind (f := fun n a => sawyerref01_Sum.l2 n p a ((64 * (i + 1) : Nat) : Int)) hT h2)
    simp only [sawyerref01_Sum.l2]
    rw [if_pos (by omega), if_pos (by omega), show wrap64 (((64 * i : Nat) : Int) + 64) = ((64 * (i + 1) : Nat) : Int) by rw [w64 _ (by omega) (by omega)]; omega]
    rw [if_pos (by omega), if_pos (by omega)]
    have e2 : (p.take ((64 * (i + 1) : Nat) : Int).toNat).drop ((64 * i : Nat) : Int).toNat = (p.drop (64 * i)).take 64 := by
      rw [Int.toNat_natCast, Int.toNat_natCast, List.drop_take, show 64 * (i + 1) - 64 * i = 64 by omega]
    rw [e2]
theorem len8_snoc (n i : Nat) (h : i < 8) : (Sha.len8 n).take (i + 1) = (Sha.len8 n).take i ++ [(Sha.len8 n).getD i 0] := by
  rw [List.take_succ_eq_append_getElem (show i < (Sha.len8 n).length from h), List.getD_eq_getElem?_getD, List.getElem?_eq_getElem (show i < (Sha.len8 n).length from h)]
  rfl
theorem len8_at (n i : Nat) (h : i < 8) (hn : n ≤ 140737488355000) : shr .u64 (8 * (n : Int)) (8 * (7 - (i : Int))) % 256 = (Sha.len8 n).getD i 0 := by
  have hcs : i = 0 ∨ i = 1 ∨ i = 2 ∨ i = 3 ∨ i = 4 ∨ i = 5 ∨ i = 6 ∨ i = 7 := by omega
  rcases hcs with rfl | rfl | rfl | rfl | rfl | rfl | rfl | rfl <;> simp [shr, Sha.len8, IntKind.bits]
theorem sum_l1 (l p : List Int) (hl : l.length ≤ 140737488355000) (hp : p.length ≤ l.length + 64) (hpad : p ++ Sha.len8 l.length = Sha.pad l) (hb : ∀ x ∈ Sha.pad l, 0 ≤ x ∧ x < 256) (d : Nat) : ∀ (i : Nat), i + d = 8 →
    Ev (fun k => sawyerref01_Sum.l1 k (p ++ (Sha.len8 l.length).take i) (8 * (l.length : Int)) (7 - (i : Int))) (Sha.sum l) := by
  induction d with
  | zero =>
    intro i hi
    obtain rfl : i = 8 := by omega
    have hpl : (Sha.pad l).length = p.length + 8 := by rw [← hpad, List.length_append]; rfl
    have h2 := sum_l2 (Sha.pad l) (Sha.pad_length l) (by omega) hb ((Sha.pad l).length / 64) 0 Sha.H0 (by have := Sha.pad_length l; omega) rfl
    refine Ev.step (fun k => ?_) h2
    simp only [sawyerref01_Sum.l1]
    rw [if_neg (by omega), show p ++ (Sha.len8 l.length).take 8 = Sha.pad l from hpad]
    rfl
  | succ d ih =>
    intro i hi
    refine Ev.step (fun k => ?_) (ih (i + 1) (by omega))
    simp only [sawyerref01_Sum.l1]
    rw [if_pos (by omega), show wrap64 (8 * (7 - (i : Int))) = 8 * (7 - (i : Int)) by rw [w64 _ (by omega) (by omega)], if_pos (by omega), if_pos (by rw [List.length_append, List.length_take, show (Sha.len8 l.length).length = 8 from rfl]; omega), show wrap64 (7 - (i : Int) - 1) = 7 - ((i + 1 : Nat) : Int) by rw [w64 _ (by omega) (by omega)]; omega]
    rw [len8_at _ _ (by omega) hl, len8_snoc _ _ (by omega), List.append_assoc]
theorem pad_bytes (l : List Int) (hb : ∀ x ∈ l, 0 ≤ x ∧ x < 256) : ∀ x ∈ Sha.pad l, 0 ≤ x ∧ x < 256 := by
  intro x hx
  simp only [Sha.pad, List.mem_append, List.mem_cons, List.mem_replicate] at hx
  rcases hx with (hx | rfl | ⟨_, rfl⟩) | hx
  · exact hb x hx
  · omega
  · omega
  · simp only [Sha.len8, List.mem_cons, List.not_mem_nil, or_false] at hx
    omega
theorem sum_l0 (l : List Int) (hl : l.length ≤ 140737488355000) (hb : ∀ x ∈ l, 0 ≤ x ∧ x < 256) (d : Nat) : ∀ (j : Nat), j + d = (119 - l.length % 64) % 64 →
    Ev (fun k => sawyerref01_Sum.l0 k l (l ++ 128 :: List.replicate j 0)) (Sha.sum l) := by
  induction d with
  | zero =>
    intro j hj
    have hlen : (l ++ 128 :: List.replicate j (0 : Int)).length = l.length + 1 + j := by simp; omega
    have h2 := sum_l1 l (l ++ 128 :: List.replicate j 0) hl (by omega) (by rw [show j = (119 - l.length % 64) % 64 by omega]; rfl) (pad_bytes l hb) 8 0 (by omega)
    refine Ev.step (fun k => ?_) h2
    simp only [sawyerref01_Sum.l0]
    rw [if_pos (by omega)]
    have e : IntKind.u64.wrap (IntKind.u64.wrap (l.length : Int) * 8) = 8 * (l.length : Int) := by rw [IntKind.wrap_u64, IntKind.wrap_u64]; omega
    rw [e]
    simp
  | succ d ih =>
    intro j hj
    have hlen : (l ++ 128 :: List.replicate j (0 : Int)).length = l.length + 1 + j := by simp; omega
    refine Ev.step (fun k => ?_) (ih (j + 1) (by omega))
    simp only [sawyerref01_Sum.l0]
    rw [if_neg (by omega), if_pos (by omega)]
    congr 1
    rw [List.replicate_succ']
    simp
theorem ok_iff (l : List Int) : Sha.ok l = true ↔ (∀ x ∈ l, 0 ≤ x ∧ x < 256) ∧ l.length ≤ 140737488355000 := by simp [Sha.ok]
/-- THE DOCUMENT's HASH IS Sha.sum. -/
theorem ref_sum (l : List Int) (h : Sha.ok l = true) : Ev (fun k => sawyerref01_Sum.f k l) (Sha.sum l) := by
  obtain ⟨hb, hl⟩ := (ok_iff l).1 h
  unfold sawyerref01_Sum.f
  refine Ev.congr (fun k => ?_) (sum_l0 l hl hb ((119 - l.length % 64) % 64) 0 (by omega))
  rw [if_pos (by simp; omega)]
  simp only [Option.bind_some, List.nil_append]
  rw [if_pos (by omega)]
  rfl
end Go.Proofs.Ytoihdghoopgdfaa.F
end
section
-- WRITTEN BY A PROGRAM OF THIS PLACE (wip/tools/pp.sh: the print, turned for functions proved by hand). Lean checks it.
namespace Go.Proofs.Ytoihdghoopgdfaa.F
open Go.RowKit Go.Proofs.YtoihdghoopgdfaaW.PrintWords Go.Proofs.YtoihdghoopgdfaaW.PrintLast Go.Proofs.YtoihdghoopgdfaaW.PrintMore
attribute [local go_sem] max2_int min2_int max_two min_two max_three min_three max_four min_four   -- for this text's walks alone
set_option linter.unusedVariables false
set_option linter.unusedSimpArgs false
/-! ### sawyerref15_Leaf: function 27 -/
def sawyerref15_Leaf.f (k : Nat) (l0 : List Int) : Option (ByteArray) := (some (([0] : List Int) : List Int)).bind fun y229 => (if y229.length + l0.length < 140737488355328 then ((sawyerref01_Sum.f k (y229 ++ l0)).bind fun t235 => (some t235)) else (none))
set_option maxHeartbeats 8000000 in
set_option maxRecDepth 100000 in
theorem sawyerref15_Leaf.calls (k : Nat) (A0 : Option Addr) (c0 : Nat) (l0 : List Int) (r : ByteArray) (w : World) (hr0 : Kd.C (Kd.int .u8) w A0 l0.length l0) (hc0 : l0.length ≤ c0) (h : sawyerref15_Leaf.f k l0 = some r) :
    Calls Try.prog 27 #[.slice A0 l0.length c0] w fun e w' => e = .returned (.string r) ∧ Below w.heap.size w w' := by
  (have HR0 := Aside0.mk hr0); (have HC0 := Aside0.mk hc0); (clear hr0 hc0); (have HB := Aside0.mk (Below.refl w.heap.size w)); (have H : ((some (([0] : List Int) : List Int)).bind fun y229 => (if y229.length + l0.length < 140737488355328 then ((sawyerref01_Sum.f k (y229 ++ l0)).bind fun t235 => (some t235)) else (none))) = some r := h); (clear h); (obtain ⟨y229, hy229⟩ : ∃ y_ : List Int, y_ = (([0] : List Int)) := ⟨_, rfl⟩); (replace H : (if y229.length + l0.length < 140737488355328 then ((sawyerref01_Sum.f k (y229 ++ l0)).bind fun t235 => (some t235)) else (none)) = some r := by first | (rw [hy229]; with_reducible exact H) | (have H2_ := (Option.bind_some _ _).symm.trans H; rw [hy229]; with_reducible exact H2_) | (have H2_ := (Option.bind_some _ _).symm.trans H; with_reducible exact H2_) | with_reducible exact H | (rw [hy229]; exact H) | exact H); (have Ny229 := Aside0.mk hy229); (clear hy229); (by_cases c2 : y229.length + l0.length < 140737488355328); (focus ((rw [if_pos c2] at H); (have LMc2 := Aside0.mk c2); (clear c2); (obtain ⟨y232, hy232⟩ : ∃ y_ : List Int, y_ = (y229 ++ l0) := ⟨_, rfl⟩); (replace H : ((sawyerref01_Sum.f k y232).bind fun t235 => (some t235)) = some r := by first | (rw [hy232]; with_reducible exact H) | (have H2_ := (Option.bind_some _ _).symm.trans H; rw [hy232]; with_reducible exact H2_) | (have H2_ := (Option.bind_some _ _).symm.trans H; with_reducible exact H2_) | with_reducible exact H | (rw [hy232]; exact H) | exact H); (have Ny232 := Aside0.mk hy232); (clear hy232); (replace H := Option.bind_eq_some_iff.mp H); (obtain ⟨t235, A30, H⟩ := H); (replace H : (some t235) = some r := H); (have A3 := Aside0.mk A30); (clear A30); (obtain rfl := Option.some.inj H); (go_enter Try.func27, Try.ntmps27); (go_wp2_with (first | ((with_reducible refine gate_dst (N := 3) rfl ?_); refine Kd.R_lit (Kd.int .u8) _ 5 ?hg (N := 3) ?hd (xs := ([0] : List Int)) (inner := [.int .u8 0]) (ok := fun _ => True) (okp := fun _ => True) ?hr ?hp (fun _ hk => hk) trivial (Below.refl _ _) (Nat.le_refl _) (by simp) ?_; (case hd => rfl); (case hg => rfl); (case hr => first | (go_simp; done) | (go_simp; rfl) | (go_simp; simp [IntKind.wrap_u32]; done)); (case hp => exact (Reps.one (show Kd.M (Kd.int .u8) _ _ _ 0 [.int .u8 0] from rfl) (Reps.none _ _))); intro v230 w4 ho5 hb hg_ hnew_; clear hg_ hnew_; (first | rw [← Ny229.out] at ho5 | (simp only [Int.reduceToNat] at ho5; rw [← Ny229.out] at ho5)); have n0_ := Aside0.mk (Kd.R_lower ho5 (below_size (by repeat (first | (with_reducible first | exact HB.out | apply below_alloc | apply pw_below_drewN | apply below_drew1) | exact HB.out)))); have n1_ := Aside0.mk (below_step (by repeat (first | (with_reducible first | exact HB.out | apply below_alloc | apply pw_below_drewN | apply below_drew1) | exact HB.out)) hb); clear HB; have HO231 := n0_; have HB := n1_; clear n0_ n1_; clear hb ho5) | ((with_reducible refine gate_builtin (b := .append) (xs := #[.tmp 3, .tmp 4]) rfl ?_); at_builtin; refine Kd.R_append_rows (Kd.int .u8) (w0 := w) w.heap.size rfl (.tmp 3) (.tmp 4) 42 5 (.int .u8 0) 1 rfl Try.underlying42 info5 rfl (by decide) (by omega) v230 y229 l0 _ _ _ (fun _ => True) (fun _ => False) rfl rfl ?aO ?aR (fun _ _ h => h) (fun _ h => h.elim) ?aF ?aB ?aS ?aL ?_; (case aR => repeat (first | exact (Kd.C_below HR0.out HB.out) | (with_reducible refine Kd.C_alloc ?_ _) | (with_reducible refine Kd.C_drewN ?_ _) | (with_reducible refine Kd.C_drew ?_))); (case aB => exact (by repeat (first | (with_reducible first | exact HB.out | apply below_alloc | apply pw_below_drewN | apply below_drew1) | exact HB.out))); (case aF => exact (fun _ _ => trivial)); (case aO => exact (by (with_reducible repeat (first | apply Kd.R_alloc | apply Kd.R_drewN | apply Kd.R_drew)); exact HO231.out)); (case aS => exact (below_size (by repeat (first | (with_reducible first | exact HB.out | apply below_alloc | apply pw_below_drewN | apply below_drew1) | exact HB.out)))); (case aL => have := LMc2.out; omega); intro v233 w6 ho hb hg hat; rw [← Ny232.out] at ho; have n0_ := Aside0.mk (hb); have n1_ := Aside0.mk (ho); clear HB; clear HO231; have HB := n0_; have HO234 := n1_; clear n0_ n1_; clear ho hb hg hat; obtain ⟨Ao7, co7, eo7⟩ := Kd.R_slice HO234.out; subst eo7) | ((with_reducible refine gate_callee (f := 46) rfl ?_); refine goesL_ (some 6) rfl rfl Try.func46 (by kernel_rfl) rfl #[.slice Ao7 y232.length co7] rfl (by (try simp only [List.map_toArray, List.map_cons, List.map_nil]); first | done | rfl | (simp only [List.length_drop, List.length_take]; rfl)) ?_; (with_reducible refine (sawyerref01_Sum.calls k _ _ y232 t235 _ ?side1 ?side2 A3.out).mono ?_); (case side1 => repeat (first | exact (Kd.R_reads' HO234.out).2.2 | (with_reducible refine Kd.C_alloc ?_ _) | (with_reducible refine Kd.C_drewN ?_ _) | (with_reducible refine Kd.C_drew ?_))); (case side2 => exact (Kd.R_reads' HO234.out).2.1); rintro e w8 ⟨rfl, hb⟩; refine ⟨_, rfl, ?_⟩; have n0_ := Aside0.mk (Kd.R_below (by (with_reducible repeat (first | apply Kd.R_alloc | apply Kd.R_drewN | apply Kd.R_drew)); exact HO234.out) hb); have n1_ := Aside0.mk (below_step (by repeat (first | (with_reducible first | exact HB.out | apply below_alloc | apply pw_below_drewN | apply below_drew1) | exact HB.out)) hb); clear HO234; clear HB; have HO234 := n0_; have HB := n1_; clear n0_ n1_; (try clear hb); (try clear hb2); (try clear hk); (try clear hi)))); (go_ret); (exact ⟨by first | rfl | (simp [errW_none, errW_some] <;> rfl) | (simp [*, errW_none, errW_some] <;> rfl), by repeat (first | (with_reducible first | exact HB.out | apply below_alloc | apply pw_below_drewN | apply below_drew1) | exact HB.out)⟩))); (focus ((rw [if_neg c2] at H); (exact absurd H (by simp))))
end Go.Proofs.Ytoihdghoopgdfaa.F
end
section
-- WRITTEN BY A PROGRAM OF THIS PLACE (wip/tools/pp.sh: the print, turned for functions proved by hand). Lean checks it.
namespace Go.Proofs.Ytoihdghoopgdfaa.F
open Go.RowKit Go.Proofs.YtoihdghoopgdfaaW.PrintWords Go.Proofs.YtoihdghoopgdfaaW.PrintLast Go.Proofs.YtoihdghoopgdfaaW.PrintMore
attribute [local go_sem] max2_int min2_int max_two min_two max_three min_three max_four min_four   -- for this text's walks alone
set_option linter.unusedVariables false
set_option linter.unusedSimpArgs false
/-! ### sawyerref15_Same: function 20 -/
def sawyerref15_Same.l0 : Nat → List ByteArray → List ByteArray → Int → Option (Bool)
  | 0, _, _, _ => none
  | k + 1, x0, x1, x5 => if x5 < (x0.length : Int) then (if 0 ≤ x5 then (if x5 < (x1.length : Int) then (if (rdOf ByteArray.empty x0 x5).toList = (rdOf ByteArray.empty x1 x5).toList then (sawyerref15_Same.l0 k x0 x1 (wrap64 (x5 + 1))) else (some false)) else (none)) else (none)) else (some true)
def sawyerref15_Same.f (k : Nat) (l0 : List ByteArray) (l1 : List ByteArray) : Option (Bool) := if (l0.length : Int) = (l1.length : Int) then (sawyerref15_Same.l0 k l0 l1 0) else (some false)
set_option maxHeartbeats 8000000 in
set_option maxRecDepth 100000 in
theorem sawyerref15_Same.calls (k : Nat) (A0 : Option Addr) (c0 : Nat) (l0 : List ByteArray) (A1 : Option Addr) (c1 : Nat) (l1 : List ByteArray) (r : Bool) (w : World) (hr0 : Kd.C Kd.string w A0 l0.length l0) (hc0 : l0.length ≤ c0) (hr1 : Kd.C Kd.string w A1 l1.length l1) (hc1 : l1.length ≤ c1) (h : sawyerref15_Same.f k l0 l1 = some r) :
    Calls Try.prog 20 #[.slice A0 l0.length c0, .slice A1 l1.length c1] w fun e w' => e = .returned (.bool r) ∧ Drawn0 w w' := by
  (have HR0 := Aside0.mk hr0); (have HC0 := Aside0.mk hc0); (clear hr0 hc0); (have HR1 := Aside0.mk hr1); (have HC1 := Aside0.mk hc1); (clear hr1 hc1); (have H : (if (l0.length : Int) = (l1.length : Int) then (sawyerref15_Same.l0 k l0 l1 0) else (some false)) = some r := h); (clear h); (by_cases c3 : (l0.length : Int) = (l1.length : Int))
  · (rw [if_pos c3] at H); (have c3b0 : ((l0.length : Int) == (l1.length : Int)) = true := beq_iff_eq.mpr c3); (have c3b1 : ((l0.length : Int) != (l1.length : Int)) = false := bne_eq_false_iff_eq.mpr c3); (have c3b2 : (l0.length == l1.length) = true := by first | simpa using c3 | (simp at c3 ⊢; omega)); (clear c3); (have H' := Aside0.mk H); (clear H); (go_enter Try.func20, Try.ntmps20); (go_wp2); (repeat (go_quiet (fail); try go_wp2)); (go_loopg [5] k (fun kq v5 w' => ∃ (x5_1 : Int), v5 = .int .i64 x5_1 ∧ Aside0 (sawyerref15_Same.l0 kq l0 l1 x5_1 = some r) ∧ Aside0 (kq ≤ k) ∧ Drawn0 w w'))
    case atStart => exact ⟨(0), (by first | rfl | (simp; done) | (simp [*]; done)), H', ⟨Nat.le_refl _⟩, by repeat (first | exact Drawn0.refl _ | apply Drawn0.step)⟩
    case round =>
      (clear H'); (try clear c1); (try clear c2); (try clear p2); (try clear c3); (try clear c3b0); (try clear c3b1); (try clear c3b2); (obtain ⟨x5_1, rfl, HA, HK1, ⟨m1, rfl⟩⟩ := hrel)
      cases gk with
      | zero => exact absurd HA.out (by simp [sawyerref15_Same.l0])
      | succ k1 =>
        (have H := HA.out); (clear HA); (simp only [sawyerref15_Same.l0] at H); (by_cases c4 : x5_1 < (l0.length : Int))
        · (rw [if_pos c4] at H); (have c4b0 : decide (x5_1 < (l0.length : Int)) = true := decide_eq_true c4); (clear c4); (by_cases c5 : 0 ≤ x5_1)
          · (rw [if_pos c5] at H); (have c5b0 : decide (0 ≤ x5_1) = true := decide_eq_true c5); (clear c5); (by_cases c6 : x5_1 < (l1.length : Int))
            · (rw [if_pos c6] at H); (have c6b0 : decide (x5_1 < (l1.length : Int)) = true := decide_eq_true c6); (clear c6); (by_cases c7 : (rdOf ByteArray.empty l0 x5_1).toList = (rdOf ByteArray.empty l1 x5_1).toList)
              · (rw [if_pos c7] at H); (have c7b0 : ((rdOf ByteArray.empty l0 x5_1).toList == (rdOf ByteArray.empty l1 x5_1).toList) = true := beq_iff_eq.mpr c7); (have c7b1 : ((rdOf ByteArray.empty l0 x5_1).toList != (rdOf ByteArray.empty l1 x5_1).toList) = false := bne_eq_false_iff_eq.mpr c7); (clear c7); (have H' := Aside0.mk H); (clear H); (have p256 : 0 ≤ (x5_1 : Int) := of_decide_eq_true (by first | (with_reducible assumption) | assumption)); (have q256 : x5_1 < (l0.length : Int) := of_decide_eq_true (by first | (with_reducible assumption) | assumption)); (obtain ⟨ad256, e256, hx256_0⟩ := Kd.at_string HR0.out x5_1 p256 q256)
                cases e256
                (replace p256 := eq_true p256); (replace q256 := eq_true q256); (have p257 : 0 ≤ (x5_1 : Int) := of_decide_eq_true (by first | (with_reducible assumption) | assumption)); (have q257 : x5_1 < (l1.length : Int) := of_decide_eq_true (by first | (with_reducible assumption) | assumption)); (obtain ⟨ad257, e257, hx257_0⟩ := Kd.at_string HR1.out x5_1 p257 q257)
                cases e257
                (replace p257 := eq_true p257); (replace q257 := eq_true q257); (go_wp2); (repeat (go_quiet (fail); try go_wp2)); (go_roundg k1)
                case measure => have := HK1.out; omega
                case rel => exact ⟨(wrap64 (x5_1 + 1)), (by first | rfl | (simp; done) | (simp [*]; done)), H', ⟨by have := HK1.out; omega⟩, by repeat (first | exact Drawn0.refl _ | apply Drawn0.step)⟩
              · (rw [if_neg c7] at H); (have c7b0 : ((rdOf ByteArray.empty l0 x5_1).toList == (rdOf ByteArray.empty l1 x5_1).toList) = false := beq_eq_false_iff_ne.mpr c7); (have c7b1 : ((rdOf ByteArray.empty l0 x5_1).toList != (rdOf ByteArray.empty l1 x5_1).toList) = true := bne_iff_ne.mpr c7); (obtain rfl := Option.some.inj H); (have p256 : 0 ≤ (x5_1 : Int) := of_decide_eq_true (by first | (with_reducible assumption) | assumption)); (have q256 : x5_1 < (l0.length : Int) := of_decide_eq_true (by first | (with_reducible assumption) | assumption)); (obtain ⟨ad256, e256, hx256_0⟩ := Kd.at_string HR0.out x5_1 p256 q256)
                cases e256
                (replace p256 := eq_true p256); (replace q256 := eq_true q256); (have p257 : 0 ≤ (x5_1 : Int) := of_decide_eq_true (by first | (with_reducible assumption) | assumption)); (have q257 : x5_1 < (l1.length : Int) := of_decide_eq_true (by first | (with_reducible assumption) | assumption)); (obtain ⟨ad257, e257, hx257_0⟩ := Kd.at_string HR1.out x5_1 p257 q257)
                cases e257
                (replace p257 := eq_true p257); (replace q257 := eq_true q257); (go_wp2); (repeat (go_quiet (fail); try go_wp2)); (go_ret); (exact ⟨by first | rfl | (simp; done) | (simp [*]; done), by repeat (first | exact Drawn0.refl _ | apply Drawn0.step)⟩)
            focus ((rw [if_neg c6] at H); (exact absurd H (by simp)))
          focus ((rw [if_neg c5] at H); (exact absurd H (by simp)))
        focus ((rw [if_neg c4] at H); (have c4b0 : decide (x5_1 < (l0.length : Int)) = false := decide_eq_false c4); (clear c4); (obtain rfl := Option.some.inj H); (go_wp2); (repeat (go_quiet (fail); try go_wp2)); (go_ret); (exact ⟨by first | rfl | (simp; done) | (simp [*]; done), by repeat (first | exact Drawn0.refl _ | apply Drawn0.step)⟩))
  focus ((rw [if_neg c3] at H); (have c3b0 : ((l0.length : Int) == (l1.length : Int)) = false := beq_eq_false_iff_ne.mpr c3); (have c3b1 : ((l0.length : Int) != (l1.length : Int)) = true := bne_iff_ne.mpr c3); (have c3b2 : (l0.length == l1.length) = false := by first | simpa using c3 | (simp at c3 ⊢; omega)); (obtain rfl := Option.some.inj H); (go_enter Try.func20, Try.ntmps20); (go_wp2); (repeat (go_quiet (fail); try go_wp2)); (go_ret); (exact ⟨by first | rfl | (simp; done) | (simp [*]; done), by repeat (first | exact Drawn0.refl _ | apply Drawn0.step)⟩))
end Go.Proofs.Ytoihdghoopgdfaa.F
end
section
-- WRITTEN BY A PROGRAM OF THIS PLACE (wip/tools/pp.sh: the print, turned for functions proved by hand). Lean checks it.
namespace Go.Proofs.Ytoihdghoopgdfaa.F
open Go.RowKit Go.Proofs.YtoihdghoopgdfaaW.PrintWords Go.Proofs.YtoihdghoopgdfaaW.PrintLast Go.Proofs.YtoihdghoopgdfaaW.PrintMore
attribute [local go_sem] max2_int min2_int max_two min_two max_three min_three max_four min_four   -- for this text's walks alone
set_option linter.unusedVariables false
set_option linter.unusedSimpArgs false
/-! ### sawyerref16_Same: function 14 -/
def sawyerref16_Same.f (k : Nat) (a0_0 : Int) (l0_1 : List ByteArray) (a1_0 : Int) (l1_1 : List ByteArray) : Option (Bool) := if a0_0 = a1_0 then ((sawyerref15_Same.f k l0_1 l1_1).bind fun t260 => (some t260)) else (some false)
set_option maxHeartbeats 8000000 in
set_option maxRecDepth 100000 in
theorem sawyerref16_Same.calls (k : Nat) (a0_0 : Int) (A0_1 : Option Addr) (c0_1 : Nat) (l0_1 : List ByteArray) (a1_0 : Int) (A1_1 : Option Addr) (c1_1 : Nat) (l1_1 : List ByteArray) (r : Bool) (w : World) (hr0_1 : Kd.C Kd.string w A0_1 l0_1.length l0_1) (hc0_1 : l0_1.length ≤ c0_1) (hr1_1 : Kd.C Kd.string w A1_1 l1_1.length l1_1) (hc1_1 : l1_1.length ≤ c1_1) (h : sawyerref16_Same.f k a0_0 l0_1 a1_0 l1_1 = some r) :
    Calls Try.prog 14 #[.agg #[.int .i64 a0_0, .slice A0_1 l0_1.length c0_1], .agg #[.int .i64 a1_0, .slice A1_1 l1_1.length c1_1]] w fun e w' => e = .returned (.bool r) ∧ Below w.heap.size w w' := by
  (have hu24 := Try.underlying24); (have HR0_1 := Aside0.mk hr0_1); (have HC0_1 := Aside0.mk hc0_1); (clear hr0_1 hc0_1); (have HR1_1 := Aside0.mk hr1_1); (have HC1_1 := Aside0.mk hc1_1); (clear hr1_1 hc1_1); (have HB := Aside0.mk (Below.refl w.heap.size w)); (have H : (if a0_0 = a1_0 then ((sawyerref15_Same.f k l0_1 l1_1).bind fun t260 => (some t260)) else (some false)) = some r := h); (clear h); (by_cases c3 : a0_0 = a1_0); (focus ((rw [if_pos c3] at H); (have c3b0 : (a0_0 == a1_0) = true := beq_iff_eq.mpr c3); (have c3b1 : (a0_0 != a1_0) = false := bne_eq_false_iff_eq.mpr c3); (clear c3); (replace H := Option.bind_eq_some_iff.mp H); (obtain ⟨t260, A40, H⟩ := H); (replace H : (some t260) = some r := H); (have A4 := Aside0.mk A40); (clear A40); (obtain rfl := Option.some.inj H); (go_enter Try.func14, Try.ntmps14); (go_wp2_with (first | ((with_reducible refine gate_dst (N := 2) rfl ?_); refine box_event ?hg (N := 2) ?hd (cs := #[.int .i64 a0_0, .slice A0_1 l0_1.length c0_1]) (t := 24) ?hr ?_; (case hd => rfl); (case hg => rfl); (case hr => first | (go_simp; done) | (go_simp; rfl) | (go_simp; simp [IntKind.wrap_u32]; done)); intro gb258 hg w5 hbox hb; have n0_ := Aside0.mk (below_step (by repeat (first | (with_reducible first | exact HB.out | apply below_alloc | apply pw_below_drewN | apply below_drew1) | exact HB.out)) hb); have n1_ := Aside0.mk (hbox); have n2_ := Aside0.mk ((by rw [hg]; exact (below_size (by repeat (first | (with_reducible first | exact HB.out | apply below_alloc | apply pw_below_drewN | apply below_drew1) | exact HB.out))) : w.heap.size ≤ gb258)); have n3_ := Aside0.mk ((by rw [hg]; exact (below_size (by repeat (first | (with_reducible first | exact HB.out | apply below_alloc | apply pw_below_drewN | apply below_drew1) | exact HB.out))) : w.heap.size ≤ gb258)); clear HB; have HB := n0_; have BK258 := n1_; have GW258 := n2_; have GE258 := n3_; clear n0_ n1_ n2_ n3_; clear hb hbox hg) | ((with_reducible refine gate_dst (N := 3) rfl ?_); refine box_event ?hg (N := 3) ?hd (cs := #[.int .i64 a1_0, .slice A1_1 l1_1.length c1_1]) (t := 24) ?hr ?_; (case hd => rfl); (case hg => rfl); (case hr => first | (go_simp; done) | (go_simp; rfl) | (go_simp; simp [IntKind.wrap_u32]; done)); intro gb259 hg w6 hbox hb; have n0_ := Aside0.mk (blk_below (g := gb258) (o := .cells #[.int .i64 a0_0, .slice A0_1 l0_1.length c0_1] 24 (0, 0)) (by (with_reducible repeat (first | refine blk_drewN ?_ _ | refine blk_drew ?_ | refine blk_alloc ?_ _)); exact BK258.out) hb); have n1_ := Aside0.mk (below_step (by repeat (first | (with_reducible first | exact HB.out | apply below_alloc | apply pw_below_drewN | apply below_drew1 | refine below_set ?_ GE258.out) | exact HB.out)) hb); have n2_ := Aside0.mk (hbox); have n3_ := Aside0.mk ((by rw [hg]; exact (below_size (by repeat (first | (with_reducible first | exact HB.out | apply below_alloc | apply pw_below_drewN | apply below_drew1 | refine below_set ?_ GE258.out) | exact HB.out))) : w.heap.size ≤ gb259)); have n4_ := Aside0.mk ((by rw [hg]; exact (below_size (by repeat (first | (with_reducible first | exact HB.out | apply below_alloc | apply pw_below_drewN | apply below_drew1 | refine below_set ?_ GE258.out) | exact HB.out))) : w.heap.size ≤ gb259)); have n5_ := Aside0.mk ((by rw [hg]; exact Nat.ne_of_lt (blk_lt (g := gb258) (o := .cells #[.int .i64 a0_0, .slice A0_1 l0_1.length c0_1] 24 (0, 0)) (by (with_reducible repeat (first | refine blk_drewN ?_ _ | refine blk_drew ?_ | refine blk_alloc ?_ _)); exact BK258.out)) : gb258 ≠ gb259)); have n6_ := Aside0.mk ((by rw [hg]; exact Nat.ne_of_gt (blk_lt (g := gb258) (o := .cells #[.int .i64 a0_0, .slice A0_1 l0_1.length c0_1] 24 (0, 0)) (by (with_reducible repeat (first | refine blk_drewN ?_ _ | refine blk_drew ?_ | refine blk_alloc ?_ _)); exact BK258.out)) : gb259 ≠ gb258)); clear BK258; clear HB; have BK258 := n0_; have HB := n1_; have BK259 := n2_; have GW259 := n3_; have GE259 := n4_; have NB258_259 := n5_; have NB259_258 := n6_; clear n0_ n1_ n2_ n3_ n4_ n5_ n6_; clear hb hbox hg; have hnb7 := NB258_259.out; have hnc7 := NB259_258.out; have hcz8_0 : w6.cell? ⟨gb258, 0, none⟩ = some (.int .i64 a0_0) := (blk_cell BK258.out 0).trans rfl; have hcz8_1 : w6.cell? ⟨gb258, 1, none⟩ = some (.slice A0_1 l0_1.length c0_1) := (blk_cell BK258.out 1).trans rfl; have hfz8_0 := blk_frozen BK258.out 0; have hfz8_1 := blk_frozen BK258.out 1; have hcz9_0 : w6.cell? ⟨gb259, 0, none⟩ = some (.int .i64 a1_0) := (blk_cell BK259.out 0).trans rfl; have hcz9_1 : w6.cell? ⟨gb259, 1, none⟩ = some (.slice A1_1 l1_1.length c1_1) := (blk_cell BK259.out 1).trans rfl; have hfz9_0 := blk_frozen BK259.out 0; have hfz9_1 := blk_frozen BK259.out 1) | (go_at_call 20; (with_reducible refine (sawyerref15_Same.calls k _ _ l0_1 _ _ l1_1 t260 _ ?side1 ?side2 ?side3 ?side4 A4.out).mono ?_); (case side1 => repeat (first | exact (Kd.C_below HR0_1.out HB.out) | (with_reducible refine Kd.C_alloc ?_ _) | (with_reducible refine Kd.C_drewN ?_ _) | (with_reducible refine Kd.C_drew ?_))); (case side2 => exact HC0_1.out); (case side3 => repeat (first | exact (Kd.C_below HR1_1.out HB.out) | (with_reducible refine Kd.C_alloc ?_ _) | (with_reducible refine Kd.C_drewN ?_ _) | (with_reducible refine Kd.C_drew ?_))); (case side4 => exact HC1_1.out); rintro e w' ⟨rfl, ⟨nd, rfl⟩⟩))); (go_ret); (exact ⟨by first | rfl | (simp [errW_none, errW_some] <;> rfl) | (simp [*, errW_none, errW_some] <;> rfl), by repeat (first | (with_reducible first | exact HB.out | apply below_alloc | apply pw_below_drewN | apply below_drew1 | refine below_set ?_ GE258.out | refine below_set ?_ GE259.out) | exact HB.out)⟩)))
  (focus ((rw [if_neg c3] at H); (have c3b0 : (a0_0 == a1_0) = false := beq_eq_false_iff_ne.mpr c3); (have c3b1 : (a0_0 != a1_0) = true := bne_iff_ne.mpr c3); (obtain rfl := Option.some.inj H); (go_enter Try.func14, Try.ntmps14); (go_wp2_with (first | ((with_reducible refine gate_dst (N := 2) rfl ?_); refine box_event ?hg (N := 2) ?hd (cs := #[.int .i64 a0_0, .slice A0_1 l0_1.length c0_1]) (t := 24) ?hr ?_; (case hd => rfl); (case hg => rfl); (case hr => first | (go_simp; done) | (go_simp; rfl) | (go_simp; simp [IntKind.wrap_u32]; done)); intro gb258 hg w10 hbox hb; have n0_ := Aside0.mk (below_step (by repeat (first | (with_reducible first | exact HB.out | apply below_alloc | apply pw_below_drewN | apply below_drew1) | exact HB.out)) hb); have n1_ := Aside0.mk (hbox); have n2_ := Aside0.mk ((by rw [hg]; exact (below_size (by repeat (first | (with_reducible first | exact HB.out | apply below_alloc | apply pw_below_drewN | apply below_drew1) | exact HB.out))) : w.heap.size ≤ gb258)); have n3_ := Aside0.mk ((by rw [hg]; exact (below_size (by repeat (first | (with_reducible first | exact HB.out | apply below_alloc | apply pw_below_drewN | apply below_drew1) | exact HB.out))) : w.heap.size ≤ gb258)); clear HB; have HB := n0_; have BK258 := n1_; have GW258 := n2_; have GE258 := n3_; clear n0_ n1_ n2_ n3_; clear hb hbox hg) | ((with_reducible refine gate_dst (N := 3) rfl ?_); refine box_event ?hg (N := 3) ?hd (cs := #[.int .i64 a1_0, .slice A1_1 l1_1.length c1_1]) (t := 24) ?hr ?_; (case hd => rfl); (case hg => rfl); (case hr => first | (go_simp; done) | (go_simp; rfl) | (go_simp; simp [IntKind.wrap_u32]; done)); intro gb259 hg w11 hbox hb; have n0_ := Aside0.mk (blk_below (g := gb258) (o := .cells #[.int .i64 a0_0, .slice A0_1 l0_1.length c0_1] 24 (0, 0)) (by (with_reducible repeat (first | refine blk_drewN ?_ _ | refine blk_drew ?_ | refine blk_alloc ?_ _)); exact BK258.out) hb); have n1_ := Aside0.mk (below_step (by repeat (first | (with_reducible first | exact HB.out | apply below_alloc | apply pw_below_drewN | apply below_drew1 | refine below_set ?_ GE258.out) | exact HB.out)) hb); have n2_ := Aside0.mk (hbox); have n3_ := Aside0.mk ((by rw [hg]; exact (below_size (by repeat (first | (with_reducible first | exact HB.out | apply below_alloc | apply pw_below_drewN | apply below_drew1 | refine below_set ?_ GE258.out) | exact HB.out))) : w.heap.size ≤ gb259)); have n4_ := Aside0.mk ((by rw [hg]; exact (below_size (by repeat (first | (with_reducible first | exact HB.out | apply below_alloc | apply pw_below_drewN | apply below_drew1 | refine below_set ?_ GE258.out) | exact HB.out))) : w.heap.size ≤ gb259)); have n5_ := Aside0.mk ((by rw [hg]; exact Nat.ne_of_lt (blk_lt (g := gb258) (o := .cells #[.int .i64 a0_0, .slice A0_1 l0_1.length c0_1] 24 (0, 0)) (by (with_reducible repeat (first | refine blk_drewN ?_ _ | refine blk_drew ?_ | refine blk_alloc ?_ _)); exact BK258.out)) : gb258 ≠ gb259)); have n6_ := Aside0.mk ((by rw [hg]; exact Nat.ne_of_gt (blk_lt (g := gb258) (o := .cells #[.int .i64 a0_0, .slice A0_1 l0_1.length c0_1] 24 (0, 0)) (by (with_reducible repeat (first | refine blk_drewN ?_ _ | refine blk_drew ?_ | refine blk_alloc ?_ _)); exact BK258.out)) : gb259 ≠ gb258)); clear BK258; clear HB; have BK258 := n0_; have HB := n1_; have BK259 := n2_; have GW259 := n3_; have GE259 := n4_; have NB258_259 := n5_; have NB259_258 := n6_; clear n0_ n1_ n2_ n3_ n4_ n5_ n6_; clear hb hbox hg; have hnb12 := NB258_259.out; have hnc12 := NB259_258.out; have hcz13_0 : w11.cell? ⟨gb258, 0, none⟩ = some (.int .i64 a0_0) := (blk_cell BK258.out 0).trans rfl; have hcz13_1 : w11.cell? ⟨gb258, 1, none⟩ = some (.slice A0_1 l0_1.length c0_1) := (blk_cell BK258.out 1).trans rfl; have hfz13_0 := blk_frozen BK258.out 0; have hfz13_1 := blk_frozen BK258.out 1; have hcz14_0 : w11.cell? ⟨gb259, 0, none⟩ = some (.int .i64 a1_0) := (blk_cell BK259.out 0).trans rfl; have hcz14_1 : w11.cell? ⟨gb259, 1, none⟩ = some (.slice A1_1 l1_1.length c1_1) := (blk_cell BK259.out 1).trans rfl; have hfz14_0 := blk_frozen BK259.out 0; have hfz14_1 := blk_frozen BK259.out 1))); (go_ret); (exact ⟨by first | rfl | (simp [errW_none, errW_some] <;> rfl) | (simp [*, errW_none, errW_some] <;> rfl), by repeat (first | (with_reducible first | exact HB.out | apply below_alloc | apply pw_below_drewN | apply below_drew1 | refine below_set ?_ GE258.out | refine below_set ?_ GE259.out) | exact HB.out)⟩)))
end Go.Proofs.Ytoihdghoopgdfaa.F
end
section
-- WRITTEN BY A PROGRAM OF THIS PLACE (wip/tools/pp.sh: the print, turned for functions proved by hand). Lean checks it.
namespace Go.Proofs.Ytoihdghoopgdfaa.F
open Go.RowKit Go.Proofs.YtoihdghoopgdfaaW.PrintWords Go.Proofs.YtoihdghoopgdfaaW.PrintLast Go.Proofs.YtoihdghoopgdfaaW.PrintMore
attribute [local go_sem] max2_int min2_int max_two min_two max_three min_three max_four min_four   -- for this text's walks alone
set_option linter.unusedVariables false
set_option linter.unusedSimpArgs false
/-! ### sawyerref02_PutNum: function 41 -/
def sawyerref02_PutNum.l0 : Nat → Int → List Int → Option (List Int)
  | 0, _, _ => none
  | k + 1, x1, x5 => if x1 ≥ 128 then (if x5.length < 140737488355328 then (sawyerref02_PutNum.l0 k (wrap64 (Int.tdiv x1 128)) (x5 ++ [(wrap64 (128 + (Int.tmod x1 128))) % 256])) else (none)) else (if x5.length < 140737488355328 then (some (x5 ++ [(x1) % 256])) else (none))
def sawyerref02_PutNum.f (k : Nat) (l0 : List Int) (a1 : Int) : Option (List Int) := if ([] : List Int).length + l0.length < 140737488355328 then (sawyerref02_PutNum.l0 k (mn (mx a1 0) 4611686018427387903) (([] : List Int) ++ l0)) else (none)
set_option maxHeartbeats 8000000 in
set_option maxRecDepth 100000 in
theorem sawyerref02_PutNum.calls (k : Nat) (A0 : Option Addr) (c0 : Nat) (l0 : List Int) (a1 : Int) (r : List Int) (w : World) (hr0 : Kd.C (Kd.int .u8) w A0 l0.length l0) (hc0 : l0.length ≤ c0) (h : sawyerref02_PutNum.f k l0 a1 = some r) :
    Calls Try.prog 41 #[.slice A0 l0.length c0, .int .i64 a1] w fun e w' => ∃ v0_ : Value, e = .returned (v0_) ∧ Kd.R (Kd.int .u8) 5 w' w.heap.size (fun _ => True) v0_ r ∧ Below w.heap.size w w' := by
  (have HR0 := Aside0.mk hr0); (have HC0 := Aside0.mk hc0); (clear hr0 hc0); (have HB := Aside0.mk (Below.refl w.heap.size w)); (have H : (if ([] : List Int).length + l0.length < 140737488355328 then (sawyerref02_PutNum.l0 k (mn (mx a1 0) 4611686018427387903) (([] : List Int) ++ l0)) else (none)) = some r := h); (clear h); (obtain ⟨ji3, hji3⟩ : ∃ j_ : Int, (mx a1 0) = j_ := ⟨_, rfl⟩); (replace H : (if ([] : List Int).length + l0.length < 140737488355328 then (sawyerref02_PutNum.l0 k (mn (ji3) 4611686018427387903) (([] : List Int) ++ l0)) else (none)) = some r := by first | (rw [hji3] at H; exact H) | (simp only [hji3] at H ⊢; exact H)); ((try (have hji3l : 0 ≤ ji3 := by (rw [← hji3]; unfold mx; (repeat' split) <;> omega)))); ((try (have hji3m : 0 ≤ ji3 := by omega))); (have hji3_ : (if a1 < 0 then 0 else a1) = ji3 := hji3); (obtain ⟨ji4, hji4⟩ : ∃ j_ : Int, (mn (ji3) 4611686018427387903) = j_ := ⟨_, rfl⟩); (replace H : (if ([] : List Int).length + l0.length < 140737488355328 then (sawyerref02_PutNum.l0 k ji4 (([] : List Int) ++ l0)) else (none)) = some r := by first | (rw [hji4] at H; exact H) | (simp only [hji4] at H ⊢; exact H)); (have hji4_ : (if 4611686018427387903 < (ji3) then 4611686018427387903 else (ji3)) = ji4 := hji4); (by_cases c5 : ([] : List Int).length + l0.length < 140737488355328)
  · (rw [if_pos c5] at H); (have LMc5 := Aside0.mk c5); (clear c5); (obtain ⟨y345, hy345⟩ : ∃ y_ : List Int, y_ = (([] : List Int) ++ l0) := ⟨_, rfl⟩); (replace H : (sawyerref02_PutNum.l0 k ji4 y345) = some r := by first | (rw [hy345]; with_reducible exact H) | (have H2_ := (Option.bind_some _ _).symm.trans H; rw [hy345]; with_reducible exact H2_) | (have H2_ := (Option.bind_some _ _).symm.trans H; with_reducible exact H2_) | with_reducible exact H | (rw [hy345]; exact H) | exact H); (have Ny345 := Aside0.mk hy345); (clear hy345); (have H' := Aside0.mk H); (clear H); (go_enter Try.func41, Try.ntmps41); (go_wp2_with (first | ((with_reducible refine gate_builtin (b := .append) (xs := #[.tmp 9, .tmp 10]) rfl ?_); at_builtin; refine Kd.R_append_rows (Kd.int .u8) (w0 := w) w.heap.size rfl (.tmp 9) (.tmp 10) 42 5 (.int .u8 0) 1 rfl Try.underlying42 info5 rfl (by decide) (by omega) (.slice none 0 0) ([] : List Int) l0 _ _ _ (fun _ => True) (fun _ => False) rfl rfl ?aO ?aR (fun _ _ h => h) (fun _ h => h.elim) ?aF ?aB ?aS ?aL ?_; (case aR => repeat (first | exact HR0.out | (with_reducible refine Kd.C_alloc ?_ _) | (with_reducible refine Kd.C_drewN ?_ _) | (with_reducible refine Kd.C_drew ?_))); (case aB => exact (by repeat (first | (with_reducible first | exact HB.out | apply below_alloc | apply pw_below_drewN | apply below_drew1) | exact HB.out))); (case aF => exact (fun _ _ => trivial)); (case aO => exact ((Kd.R_nil _ _ _ _ (fun _ => True)))); (case aS => exact (below_size (by repeat (first | (with_reducible first | exact HB.out | apply below_alloc | apply pw_below_drewN | apply below_drew1) | exact HB.out)))); (case aL => have := LMc5.out; omega); intro v346 w6 ho hb hg hat; rw [← Ny345.out] at ho; have n0_ := Aside0.mk (hb); have n1_ := Aside0.mk (ho); clear HB; have HB := n0_; have HO347 := n1_; clear n0_ n1_; clear ho hb hg hat))); (go_loopg [1, 5] k (fun kq v1 v5 w' => ∃ (x1_1 : Int) (x5_1 : List Int), v1 = .int .i64 x1_1 ∧ Aside0 (sawyerref02_PutNum.l0 kq x1_1 x5_1 = some r) ∧ Aside0 (kq ≤ k) ∧ Aside0 (Kd.R (Kd.int .u8) 5 w' w.heap.size (fun _ => True) v5 x5_1) ∧ Aside0 (Below w.heap.size w w')))
    case atStart => exact ⟨(ji4), (y345), (by first | rfl | (simp; done) | (simp only [← hji4] <;> (first | rfl | simp)) | (simp [*]; done)), H', ⟨Nat.le_refl _⟩, ⟨by (with_reducible repeat (first | apply Kd.R_alloc | apply Kd.R_drewN | apply Kd.R_drew)); exact HO347.out⟩, ⟨by repeat (first | (with_reducible first | exact HB.out | apply below_alloc | apply pw_below_drewN | apply below_drew1) | exact HB.out)⟩⟩
    case round =>
      (clear H'); (try clear p2); (try clear c4); (try clear c5); (obtain ⟨x1_1, x5_1, rfl, HA, HK1, HO_5, HB⟩ := hrel)
      cases gk with
      | zero => exact absurd HA.out (by simp [sawyerref02_PutNum.l0])
      | succ k1 =>
        (have H := HA.out); (clear HA); (simp only [sawyerref02_PutNum.l0] at H); (by_cases c7 : x1_1 ≥ 128)
        · (rw [if_pos c7] at H); (have c7b0 : decide (128 ≤ x1_1) = true := decide_eq_true c7); (clear c7); (by_cases c8 : x5_1.length < 140737488355328)
          · (rw [if_pos c8] at H); (have LMc8 := Aside0.mk c8); (clear c8); (obtain ⟨y348, hy348⟩ : ∃ y_ : List Int, y_ = (x5_1 ++ [(wrap64 (128 + (Int.tmod x1_1 128))) % 256]) := ⟨_, rfl⟩); (replace H : (sawyerref02_PutNum.l0 k1 (wrap64 (Int.tdiv x1_1 128)) y348) = some r := by first | (rw [hy348]; with_reducible exact H) | (have H2_ := (Option.bind_some _ _).symm.trans H; rw [hy348]; with_reducible exact H2_) | (have H2_ := (Option.bind_some _ _).symm.trans H; with_reducible exact H2_) | with_reducible exact H | (rw [hy348]; exact H) | exact H); (have Ny348 := Aside0.mk hy348); (clear hy348); (have H' := Aside0.mk H); (clear H); (go_wp2_with (first | ((with_reducible refine gate_builtin (b := .append) (xs := #[.tmp 14, .tmp 19]) rfl ?_); at_builtin; refine Kd.R_append (Kd.int .u8) (w0 := w) w.heap.size rfl (.tmp 14) (.tmp 19) 42 5 (.int .u8 0) 1 rfl Try.underlying42 info5 rfl (by decide) (by omega) u5 x5_1 ((wrap64 (128 + (Int.tmod x1_1 128))) % 256) [.int .u8 ((wrap64 (128 + (Int.tmod x1_1 128))) % 256)] (fun _ => True) (fun _ => False) rfl rfl ?aP (fun _ hk => hk.elim) ?aF ?aO ?aB ?aS ?aL ?_; (case aP => exact rfl); (case aB => exact (by repeat (first | (with_reducible first | exact HB.out | apply below_alloc | apply pw_below_drewN | apply below_drew1) | exact HB.out))); (case aF => exact (fun _ _ => trivial)); (case aO => exact (by (with_reducible repeat (first | apply Kd.R_alloc | apply Kd.R_drewN | apply Kd.R_drew)); exact HO_5.out)); (case aS => exact (below_size (by repeat (first | (with_reducible first | exact HB.out | apply below_alloc | apply pw_below_drewN | apply below_drew1) | exact HB.out)))); (case aL => have := LMc8.out; omega); intro v349 w9 ho hb hg hat; rw [← Ny348.out] at ho; have n0_ := Aside0.mk (hb); have n1_ := Aside0.mk (ho); clear HB; clear HO_5; have HB := n0_; have HO350 := n1_; clear n0_ n1_; clear ho hb hg hat))); (go_roundg k1)
            case measure => have := HK1.out; omega
            case rel => exact ⟨(wrap64 (Int.tdiv x1_1 128)), (y348), (by first | rfl | (simp; done) | (simp [*]; done)), H', ⟨by have := HK1.out; omega⟩, ⟨by (with_reducible repeat (first | apply Kd.R_alloc | apply Kd.R_drewN | apply Kd.R_drew)); exact HO350.out⟩, ⟨by repeat (first | (with_reducible first | exact HB.out | apply below_alloc | apply pw_below_drewN | apply below_drew1) | exact HB.out)⟩⟩
          focus ((rw [if_neg c8] at H); (exact absurd H (by simp)))
        focus ((rw [if_neg c7] at H); (have c7b0 : decide (128 ≤ x1_1) = false := decide_eq_false c7); (clear c7); (by_cases c10 : x5_1.length < 140737488355328); (focus ((rw [if_pos c10] at H); (have LMc10 := Aside0.mk c10); (clear c10); (obtain ⟨y351, hy351⟩ : ∃ y_ : List Int, y_ = (x5_1 ++ [(x1_1) % 256]) := ⟨_, rfl⟩); (replace H : (some y351) = some r := by first | (rw [hy351]; with_reducible exact H) | (have H2_ := (Option.bind_some _ _).symm.trans H; rw [hy351]; with_reducible exact H2_) | (have H2_ := (Option.bind_some _ _).symm.trans H; with_reducible exact H2_) | with_reducible exact H | (rw [hy351]; exact H) | exact H); (have Ny351 := Aside0.mk hy351); (clear hy351); (obtain rfl := Option.some.inj H); (go_wp2_with (first | ((with_reducible refine gate_builtin (b := .append) (xs := #[.tmp 23, .tmp 26]) rfl ?_); at_builtin; refine Kd.R_append (Kd.int .u8) (w0 := w) w.heap.size rfl (.tmp 23) (.tmp 26) 42 5 (.int .u8 0) 1 rfl Try.underlying42 info5 rfl (by decide) (by omega) u5 x5_1 ((x1_1) % 256) [.int .u8 ((x1_1) % 256)] (fun _ => True) (fun _ => False) rfl rfl ?aP (fun _ hk => hk.elim) ?aF ?aO ?aB ?aS ?aL ?_; (case aP => exact rfl); (case aB => exact (by repeat (first | (with_reducible first | exact HB.out | apply below_alloc | apply pw_below_drewN | apply below_drew1) | exact HB.out))); (case aF => exact (fun _ _ => trivial)); (case aO => exact (by (with_reducible repeat (first | apply Kd.R_alloc | apply Kd.R_drewN | apply Kd.R_drew)); exact HO_5.out)); (case aS => exact (below_size (by repeat (first | (with_reducible first | exact HB.out | apply below_alloc | apply pw_below_drewN | apply below_drew1) | exact HB.out)))); (case aL => have := LMc10.out; omega); intro v352 w11 ho hb hg hat; rw [← Ny351.out] at ho; have n0_ := Aside0.mk (hb); have n1_ := Aside0.mk (ho); clear HB; clear HO_5; have HB := n0_; have HO353 := n1_; clear n0_ n1_; clear ho hb hg hat))); (go_ret); (exact ⟨_, by first | rfl | (simp [errW_none, errW_some] <;> rfl) | (simp only [← hji3, ← hji4]; first | rfl | (simp [errW_none, errW_some] <;> rfl)) | (simp [*, errW_none, errW_some] <;> rfl), by (with_reducible repeat (first | apply Kd.R_alloc | apply Kd.R_drewN | apply Kd.R_drew)); exact HO353.out, by repeat (first | (with_reducible first | exact HB.out | apply below_alloc | apply pw_below_drewN | apply below_drew1) | exact HB.out)⟩))); (focus ((rw [if_neg c10] at H); (exact absurd H (by simp)))))
  focus ((rw [if_neg c5] at H); (exact absurd H (by simp)))
end Go.Proofs.Ytoihdghoopgdfaa.F
end
