-- JOINED BY A PROGRAM OF THIS PLACE (wip/tools/pack.py) out of: Ref01
import Derived.Test.YtopacnaiedlaaaaDoorL2
import Derived.Test.YtopacnaiedlaaaaDoorL16
section
/-
  The document's own answer (sawyerref01.Sum) is the hash of the plain text Sha, too: plain lists, no program.
-/
namespace Go.Proofs.YtopacnaiedlaaaaDoor.F
open Go.RowKit Go.Proofs.YtopacnaiedlaaaaDoorW.PrintWords Go.Proofs.YtopacnaiedlaaaaDoorW.PrintLast Go.Proofs.YtopacnaiedlaaaaDoorW.PrintMore
set_option linter.unusedVariables false
set_option linter.unusedSimpArgs false
theorem w64 (x : Int) (h0 : -9223372036854775808 ≤ x) (h1 : x ≤ 9223372036854775807) : wrap64 x = x := by unfold wrap64; omega
theorem bits_or_comm (x y : Int) : Go.bits .or .u32 x y = Go.bits .or .u32 y x := by
  simp only [Go.bits, BitVec.or_comm]
theorem turned_is (x : Int) (n : Nat) (h0 : 0 < n) (h : n ≤ 32) : sawyerref01_turned.f x (n : Int) = some (Sha.rot x n) := by
  unfold sawyerref01_turned.f
  rw [if_pos (by omega), w64 _ (by omega) (by omega), if_pos (by omega)]
  congr 1
  unfold Sha.rot shr shl
  rw [bits_or_comm, IntKind.wrap_u32]
  have e1 : min (n : Int).toNat (IntKind.bits .u32) = n := by show min (n : Int).toNat 32 = n; omega
  have e2 : min (32 - (n : Int)).toNat (IntKind.bits .u32) = 32 - n := by show min (32 - (n : Int)).toNat 32 = 32 - n; omega
  rw [e1, e2]
theorem rd_nat (l : List Int) (i : Nat) : rd l (i : Int) = l.getD i 0 := by simp [rd]
theorem words_l1 (d : Nat) : ∀ (t : Nat) (p : List Int), t + d = 64 → 16 ≤ t → p.length = t → Ev (fun k => sawyerref01_words.l1 k p (t : Int)) (Sha.ext d p) := by
  induction d with
  | zero =>
    intro t p ht h16 hp
    refine Ev.step (f := fun _ => some p) (fun k => ?_) (Ev.now _)
    simp only [sawyerref01_words.l1]
    rw [if_neg (by omega)]
  | succ d ih =>
    intro t p ht h16 hp
    have := ih (t + 1) (p ++ [Sha.next p]) (by omega) (by omega) (by simp [hp])
    refine Ev.step (fun k => ?_) this
    simp only [sawyerref01_words.l1]
    rw [if_pos (by omega)]
    rw [show wrap64 ((t : Int) - 15) = ((t - 15 : Nat) : Int) by rw [w64 _ (by omega) (by omega)]; omega, show wrap64 ((t : Int) - 2) = ((t - 2 : Nat) : Int) by rw [w64 _ (by omega) (by omega)]; omega, show wrap64 ((t : Int) - 16) = ((t - 16 : Nat) : Int) by rw [w64 _ (by omega) (by omega)]; omega, show wrap64 ((t : Int) - 7) = ((t - 7 : Nat) : Int) by rw [w64 _ (by omega) (by omega)]; omega, show wrap64 ((t : Int) + 1) = ((t + 1 : Nat) : Int) by rw [w64 _ (by omega) (by omega)]; omega]
    simp only [rd_nat]
    have e7 := turned_is (p.getD (t - 15) 0) 7 (by omega) (by omega)
    have e18 := turned_is (p.getD (t - 15) 0) 18 (by omega) (by omega)
    have e17 := turned_is (p.getD (t - 2) 0) 17 (by omega) (by omega)
    have e19 := turned_is (p.getD (t - 2) 0) 19 (by omega) (by omega)
    rw [if_pos (by omega), if_pos (by omega), if_pos (by omega), if_pos (by omega)]
    erw [e7, e18, e17, e19]
    simp only [Option.bind_some]
    rw [if_pos (by omega), if_pos (by omega), if_pos (by omega), if_pos (by omega), if_pos (by omega)]
    congr 2
    unfold Sha.next
    rw [hp]
    show [_] = [(p.getD (t - 16) 0 + p.getD (t - 7) 0 + Sha.small0 (p.getD (t - 15) 0) + Sha.small1 (p.getD (t - 2) 0)) % 4294967296]
    unfold Sha.small0 Sha.small1 Sha.xor
    congr 1
    omega
theorem words_l0 (l : List Int) (hl : l.length = 64) (hb : ∀ x ∈ l, 0 ≤ x ∧ x < 256) (d : Nat) : ∀ (i : Nat), i + d = 16 → Ev (fun k => sawyerref01_words.l0 k l (Sha.first i l) (i : Int)) (Sha.words l) := by
  induction d with
  | zero =>
    intro i hi
    obtain rfl : i = 16 := by omega
    refine Ev.step (fun k => ?_) (words_l1 48 16 (Sha.first 16 l) (by omega) (by omega) (Sha.first_length _ _))
    simp only [sawyerref01_words.l0]
    rw [if_neg (by omega)]
    rfl
  | succ d ih =>
    intro i hi
    refine Ev.step (fun k => ?_) (ih (i + 1) (by omega))
    simp only [sawyerref01_words.l0]
    rw [if_pos (by omega)]
    rw [show wrap64 (4 * (i : Int)) = ((4 * i : Nat) : Int) by rw [w64 _ (by omega) (by omega)]; omega]
    rw [show wrap64 (((4 * i : Nat) : Int) + 1) = ((4 * i + 1 : Nat) : Int) by rw [w64 _ (by omega) (by omega)]; omega, show wrap64 (((4 * i : Nat) : Int) + 2) = ((4 * i + 2 : Nat) : Int) by rw [w64 _ (by omega) (by omega)]; omega, show wrap64 (((4 * i : Nat) : Int) + 3) = ((4 * i + 3 : Nat) : Int) by rw [w64 _ (by omega) (by omega)]; omega, show wrap64 ((i : Int) + 1) = ((i + 1 : Nat) : Int) by rw [w64 _ (by omega) (by omega)]; omega]
    simp only [rd_nat]
    rw [if_pos (by omega), if_pos (by omega), if_pos (by omega), if_pos (by omega), if_pos (by omega), if_pos (by omega), if_pos (by omega), if_pos (by omega), if_pos (by rw [Sha.first_length]; omega)]
    congr 1
    show _ ++ [_] = Sha.first i l ++ [Sha.word l i]
    congr 2
    unfold Sha.word
    have hm : ∀ j, j < 64 → 0 ≤ l.getD j 0 ∧ l.getD j 0 < 256 := fun j hj => by
      rw [List.getD_eq_getElem?_getD, List.getElem?_eq_getElem (by omega)]
      exact hb _ (List.getElem_mem _)
    have b0 := hm (4 * i) (by omega)
    have b1 := hm (4 * i + 1) (by omega)
    have b2 := hm (4 * i + 2) (by omega)
    have b3 := hm (4 * i + 3) (by omega)
    omega
theorem words_is (l : List Int) (hl : l.length = 64) (hb : ∀ x ∈ l, 0 ≤ x ∧ x < 256) : Ev (fun k => sawyerref01_words.f k l) (Sha.words l) :=
  words_l0 l hl hb 16 0 (by omega)
theorem take_l1 (s r : List Int) (hs : s.length = 8) (hr : r.length = 8) (d : Nat) : ∀ (i : Nat), i + d = 8 → Ev (fun k => sawyerref01_take.l1 k s r ((List.zipWith (fun x y => (x + y) % 4294967296) s r).take i) (i : Int)) (List.zipWith (fun x y => (x + y) % 4294967296) s r) := by
  induction d with
  | zero =>
    intro i hi
    refine Ev.step (f := fun _ => some _) (fun k => ?_) (Ev.now _)
    simp only [sawyerref01_take.l1]
    rw [if_neg (by omega), List.take_of_length_le (by simp; omega)]
  | succ d ih =>
    intro i hi
    refine Ev.step (fun k => ?_) (ih (i + 1) (by omega))
    simp only [sawyerref01_take.l1]
    rw [if_pos (by omega), if_pos (by omega), if_pos (by omega), if_pos (by omega), if_pos (by simp; omega), show wrap64 ((i : Int) + 1) = ((i + 1 : Nat) : Int) by rw [w64 _ (by omega) (by omega)]; omega]
    simp only [rd_nat]
    congr 1
    have hz : i < (List.zipWith (fun x y => (x + y) % 4294967296) s r).length := by simp; omega
    rw [List.take_succ_eq_append_getElem hz]
    simp [List.getD_eq_getElem?_getD, show i < s.length by omega, show i < r.length by omega]
theorem eight (s : List Int) (h : s.length = 8) : ∃ a b c d e f g i, s = [a, b, c, d, e, f, g, i] := by
  match s, h with
  | [a, b, c, d, e, f, g, i], _ => exact ⟨a, b, c, d, e, f, g, i, rfl⟩
theorem take_l0 (s0 W : List Int) (h0 : s0.length = 8) (hW : W.length = 64) (d : Nat) : ∀ (t : Nat) (s : List Int), t + d = 64 → s.length = 8 →
    Ev (fun k => sawyerref01_take.l0 k s0 W Sha.K s (t : Int)) (List.zipWith (fun x y => (x + y) % 4294967296) s0 (Sha.rounds (Sha.K.drop t) (W.drop t) s)) := by
  induction d with
  | zero =>
    intro t s ht hs
    obtain rfl : t = 64 := by omega
    rw [List.drop_eq_nil_of_le (show Sha.K.length ≤ 64 from Nat.le_refl _)]
    refine Ev.step (fun k => ?_) (take_l1 s0 s h0 hs 8 0 (by omega))
    simp only [sawyerref01_take.l0]
    rw [if_neg (by omega)]
    rfl
  | succ d ih =>
    intro t s ht hs
    obtain ⟨a, b, c, e4, e, f, g, h, rfl⟩ := eight s hs
    have hKl : t < Sha.K.length := show t < 64 by omega
    have hWl : t < W.length := by omega
    have hK : Sha.K.drop t = Sha.K.getD t 0 :: Sha.K.drop (t + 1) := by
      rw [List.drop_eq_getElem_cons hKl, List.getD_eq_getElem?_getD, List.getElem?_eq_getElem hKl]
      rfl
    have hWd : W.drop t = W.getD t 0 :: W.drop (t + 1) := by
      rw [List.drop_eq_getElem_cons hWl, List.getD_eq_getElem?_getD, List.getElem?_eq_getElem hWl]
      rfl
    rw [hK, hWd]
    simp only [Sha.rounds]
    have h2 := ih (t + 1) (Sha.step (Sha.K.getD t 0) (W.getD t 0) [a, b, c, e4, e, f, g, h]) (by omega) (Sha.step_length _ _ _ rfl)
    refine Ev.step (fun k => ?_) h2
    simp only [sawyerref01_take.l0]
    have t6 := turned_is e 6 (by omega) (by omega)
    have t11 := turned_is e 11 (by omega) (by omega)
    have t25 := turned_is e 25 (by omega) (by omega)
    have t2 := turned_is a 2 (by omega) (by omega)
    have t13 := turned_is a 13 (by omega) (by omega)
    have t22 := turned_is a 22 (by omega) (by omega)
    have r0 : rd [a, b, c, e4, e, f, g, h] 0 = a := rfl
    have r1 : rd [a, b, c, e4, e, f, g, h] 1 = b := rfl
    have r2 : rd [a, b, c, e4, e, f, g, h] 2 = c := rfl
    have r3 : rd [a, b, c, e4, e, f, g, h] 3 = e4 := rfl
    have r4 : rd [a, b, c, e4, e, f, g, h] 4 = e := rfl
    have r5 : rd [a, b, c, e4, e, f, g, h] 5 = f := rfl
    have r6 : rd [a, b, c, e4, e, f, g, h] 6 = g := rfl
    have r7 : rd [a, b, c, e4, e, f, g, h] 7 = h := rfl
    simp only [r0, r1, r2, r3, r4, r5, r6, r7, List.length_cons, List.length_nil, rd_nat]
    rw [if_pos (by omega), if_pos (by omega), if_pos (by omega), if_pos (by omega)]
    erw [t6, t11, t25]
    simp only [Option.bind_some]
    rw [if_pos (by omega), if_pos (by omega), if_pos (by omega), if_pos (by omega), if_pos (by omega)]
    erw [t2, t13, t22]
    simp only [Option.bind_some]
    rw [if_pos (by omega), if_pos (by omega), if_pos (by omega), show wrap64 ((t : Int) + 1) = ((t + 1 : Nat) : Int) by rw [w64 _ (by omega) (by omega)]; omega]
    congr 1
    show [_, _, _, _, _, _, _, _] = Sha.step (Sha.K.getD t 0) (W.getD t 0) [a, b, c, e4, e, f, g, h]
    unfold Sha.step Sha.x1 Sha.y1 Sha.big0 Sha.big1 Sha.ch Sha.maj Sha.xor Sha.and
    rw [show IntKind.u32.max = 4294967295 from rfl]
    congr 1
    · omega
    · congr 4
      omega
theorem take_is (s b : List Int) (hs : s.length = 8) (hl : b.length = 64) (hb : ∀ x ∈ b, 0 ≤ x ∧ x < 256) : Ev (fun k => sawyerref01_take.f k s b) (Sha.take s b) := by
  unfold sawyerref01_take.f
  refine Ev.bind (words_is b hl hb) ?_
  have ht : sawyerref01_table.f = some Sha.K := rfl
  simp only [ht, Option.bind_some, List.nil_append, List.length_nil]
  exact Ev.congr (fun k => by rw [if_pos (by omega)]; rfl) (take_l0 s (Sha.words b) hs (Sha.words_length b) 64 0 s (by omega) hs)
/-! ### Sum, loop by loop -/
theorem sum_l3 (s : List Int) (hs : s.length = 8) (d : Nat) : ∀ (i : Nat), i + d = 8 → Ev (fun k => sawyerref01_Sum.l3 k s (Sha.out (s.take i)) (i : Int)) (strOfNums (Sha.out s)) := by
  induction d with
  | zero =>
    intro i hi
    refine Ev.step (f := fun _ => some _) (fun k => ?_) (Ev.now _)
    simp only [sawyerref01_Sum.l3]
    rw [if_neg (by omega), List.take_of_length_le (by omega)]
  | succ d ih =>
    intro i hi
    refine Ev.step (fun k => ?_) (ih (i + 1) (by omega))
    simp only [sawyerref01_Sum.l3]
    rw [if_pos (by omega), if_pos (by omega), if_pos (by omega)]
    simp only [Option.bind_some, rd_nat]
    rw [if_pos (by rw [Sha.out_length]; simp; omega), show wrap64 ((i : Int) + 1) = ((i + 1 : Nat) : Int) by rw [w64 _ (by omega) (by omega)]; omega]
    congr 1
    have ho : Sha.out (s.take i ++ [s[i]'(by omega)]) = Sha.out (s.take i) ++ Sha.bytes4 (s[i]'(by omega)) := by unfold Sha.out; rw [List.flatMap_append]; simp
    rw [List.take_succ_eq_append_getElem (show i < s.length by omega), ho, List.getD_eq_getElem?_getD, List.getElem?_eq_getElem (by omega)]
    rfl
theorem blocks_step' (p s : List Int) (h : 64 ≤ p.length) : Sha.blocks (p.length / 64) p s = Sha.blocks ((p.drop 64).length / 64) (p.drop 64) (Sha.take s (p.take 64)) := by
  rw [List.length_drop, show p.length / 64 = (p.length - 64) / 64 + 1 by omega]
  rfl
theorem sum_l2 (p : List Int) (hm : p.length % 64 = 0) (hl : p.length ≤ 140737488355328) (hb : ∀ x ∈ p, 0 ≤ x ∧ x < 256) (d : Nat) : ∀ (i : Nat) (s : List Int), 64 * (i + d) = p.length → s.length = 8 →
    Ev (fun k => sawyerref01_Sum.l2 k p s ((64 * i : Nat) : Int)) (strOfNums (Sha.out (Sha.blocks ((p.drop (64 * i)).length / 64) (p.drop (64 * i)) s))) := by
  induction d with
  | zero =>
    intro i s hi hs
    have hd : p.drop (64 * i) = [] := List.drop_eq_nil_of_le (by omega)
    rw [hd]
    refine Ev.step (fun k => ?_) (sum_l3 s hs 8 0 (by omega))
    simp only [sawyerref01_Sum.l2]
    rw [if_neg (by omega)]
    rfl
  | succ d ih =>
    intro i s hi hs
    have hlen : 64 ≤ (p.drop (64 * i)).length := by rw [List.length_drop]; omega
    have hT := take_is s ((p.drop (64 * i)).take 64) hs (by rw [List.length_take]; omega) (fun x hx => hb x (List.mem_of_mem_drop (List.mem_of_mem_take hx)))
    have h2 := ih (i + 1) (Sha.take s ((p.drop (64 * i)).take 64)) (by omega) (Sha.take_length _ _ hs)
    rw [blocks_step' _ _ hlen]
    have e1 : (p.drop (64 * i)).drop 64 = p.drop (64 * (i + 1)) := by rw [List.drop_drop]; rfl
    rw [e1]
    refine Ev.step (fun k => ?_) (Ev.bind (f := fun n a => sawyerref01_Sum.l2 n p a ((64 * (i + 1) : Nat) : Int)) hT h2)
    simp only [sawyerref01_Sum.l2]
    rw [if_pos (by omega), if_pos (by omega), show wrap64 (((64 * i : Nat) : Int) + 64) = ((64 * (i + 1) : Nat) : Int) by rw [w64 _ (by omega) (by omega)]; omega]
    rw [if_pos (by omega), if_pos (by omega)]
    have e2 : (p.take ((64 * (i + 1) : Nat) : Int).toNat).drop ((64 * i : Nat) : Int).toNat = (p.drop (64 * i)).take 64 := by
      rw [Int.toNat_natCast, Int.toNat_natCast, List.drop_take, show 64 * (i + 1) - 64 * i = 64 by omega]
    rw [e2]
theorem len8_snoc (n i : Nat) (h : i < 8) : (Sha.len8 n).take (i + 1) = (Sha.len8 n).take i ++ [(Sha.len8 n).getD i 0] := by
  rw [List.take_succ_eq_append_getElem (show i < (Sha.len8 n).length from h), List.getD_eq_getElem?_getD, List.getElem?_eq_getElem (show i < (Sha.len8 n).length from h)]
  rfl
theorem len8_at (n i : Nat) (h : i < 8) (hn : n ≤ 140737488355000) : shr .u64 (8 * (n : Int)) (8 * (7 - (i : Int))) % 256 = (Sha.len8 n).getD i 0 := by
  have hcs : i = 0 ∨ i = 1 ∨ i = 2 ∨ i = 3 ∨ i = 4 ∨ i = 5 ∨ i = 6 ∨ i = 7 := by omega
  rcases hcs with rfl | rfl | rfl | rfl | rfl | rfl | rfl | rfl <;> simp [shr, Sha.len8, IntKind.bits]
theorem sum_l1 (l p : List Int) (hl : l.length ≤ 140737488355000) (hp : p.length ≤ l.length + 64) (hpad : p ++ Sha.len8 l.length = Sha.pad l) (hb : ∀ x ∈ Sha.pad l, 0 ≤ x ∧ x < 256) (d : Nat) : ∀ (i : Nat), i + d = 8 →
    Ev (fun k => sawyerref01_Sum.l1 k (p ++ (Sha.len8 l.length).take i) (8 * (l.length : Int)) (7 - (i : Int))) (Sha.sum l) := by
  induction d with
  | zero =>
    intro i hi
    obtain rfl : i = 8 := by omega
    have hpl : (Sha.pad l).length = p.length + 8 := by rw [← hpad, List.length_append]; rfl
    have h2 := sum_l2 (Sha.pad l) (Sha.pad_length l) (by omega) hb ((Sha.pad l).length / 64) 0 Sha.H0 (by have := Sha.pad_length l; omega) rfl
    refine Ev.step (fun k => ?_) h2
    simp only [sawyerref01_Sum.l1]
    rw [if_neg (by omega), show p ++ (Sha.len8 l.length).take 8 = Sha.pad l from hpad]
    rfl
  | succ d ih =>
    intro i hi
    refine Ev.step (fun k => ?_) (ih (i + 1) (by omega))
    simp only [sawyerref01_Sum.l1]
    rw [if_pos (by omega), show wrap64 (8 * (7 - (i : Int))) = 8 * (7 - (i : Int)) by rw [w64 _ (by omega) (by omega)], if_pos (by omega), if_pos (by rw [List.length_append, List.length_take, show (Sha.len8 l.length).length = 8 from rfl]; omega), show wrap64 (7 - (i : Int) - 1) = 7 - ((i + 1 : Nat) : Int) by rw [w64 _ (by omega) (by omega)]; omega]
    rw [len8_at _ _ (by omega) hl, len8_snoc _ _ (by omega), List.append_assoc]
theorem pad_bytes (l : List Int) (hb : ∀ x ∈ l, 0 ≤ x ∧ x < 256) : ∀ x ∈ Sha.pad l, 0 ≤ x ∧ x < 256 := by
  intro x hx
  simp only [Sha.pad, List.mem_append, List.mem_cons, List.mem_replicate] at hx
  rcases hx with (hx | rfl | ⟨_, rfl⟩) | hx
  · exact hb x hx
  · omega
  · omega
  · simp only [Sha.len8, List.mem_cons, List.not_mem_nil, or_false] at hx
    omega
theorem sum_l0 (l : List Int) (hl : l.length ≤ 140737488355000) (hb : ∀ x ∈ l, 0 ≤ x ∧ x < 256) (d : Nat) : ∀ (j : Nat), j + d = (119 - l.length % 64) % 64 →
    Ev (fun k => sawyerref01_Sum.l0 k l (l ++ 128 :: List.replicate j 0)) (Sha.sum l) := by
  induction d with
  | zero =>
    intro j hj
    have hlen : (l ++ 128 :: List.replicate j (0 : Int)).length = l.length + 1 + j := by simp; omega
    have h2 := sum_l1 l (l ++ 128 :: List.replicate j 0) hl (by omega) (by rw [show j = (119 - l.length % 64) % 64 by omega]; rfl) (pad_bytes l hb) 8 0 (by omega)
    refine Ev.step (fun k => ?_) h2
    simp only [sawyerref01_Sum.l0]
    rw [if_pos (by omega)]
    have e : IntKind.u64.wrap (IntKind.u64.wrap (l.length : Int) * 8) = 8 * (l.length : Int) := by rw [IntKind.wrap_u64, IntKind.wrap_u64]; omega
    rw [e]
    simp
  | succ d ih =>
    intro j hj
    have hlen : (l ++ 128 :: List.replicate j (0 : Int)).length = l.length + 1 + j := by simp; omega
    refine Ev.step (fun k => ?_) (ih (j + 1) (by omega))
    simp only [sawyerref01_Sum.l0]
    rw [if_neg (by omega), if_pos (by omega)]
    congr 1
    rw [List.replicate_succ']
    simp
theorem ok_iff (l : List Int) : Sha.ok l = true ↔ (∀ x ∈ l, 0 ≤ x ∧ x < 256) ∧ l.length ≤ 140737488355000 := by simp [Sha.ok]
/-- THE DOCUMENT's HASH IS Sha.sum. -/
theorem ref_sum (l : List Int) (h : Sha.ok l = true) : Ev (fun k => sawyerref01_Sum.f k l) (Sha.sum l) := by
  obtain ⟨hb, hl⟩ := (ok_iff l).1 h
  unfold sawyerref01_Sum.f
  refine Ev.congr (fun k => ?_) (sum_l0 l hl hb ((119 - l.length % 64) % 64) 0 (by omega))
  rw [if_pos (by simp; omega)]
  simp only [Option.bind_some, List.nil_append]
  rw [if_pos (by omega)]
  rfl
end Go.Proofs.YtopacnaiedlaaaaDoor.F
end
