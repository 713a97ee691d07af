-- JOINED BY A PROGRAM OF THIS PLACE (wip/tools/pack.py) out of: Ref01 F4 F5 F10
import Derived.Test.YtopacnaiedlaaaaDoorK2
import Derived.Test.YtopacnaiedlaaaaDoorK10
import Derived.Test.YtopacnaiedlaaaaDoorK13
section
/-
  The document's own answer (sawyerref01.Sum) is the hash of the plain text Sha, too: plain lists, no program.
-/
namespace Go.Proofs.YtopacnaiedlaaaaDoor.F
open Go.RowKit Go.Proofs.YtopacnaiedlaaaaDoorW.PrintWords Go.Proofs.YtopacnaiedlaaaaDoorW.PrintLast Go.Proofs.YtopacnaiedlaaaaDoorW.PrintMore
set_option linter.unusedVariables false
set_option linter.unusedSimpArgs false
theorem w64 (x : Int) (h0 : -9223372036854775808 ≤ x) (h1 : x ≤ 9223372036854775807) : wrap64 x = x := by unfold wrap64; omega
theorem bits_or_comm (x y : Int) : Go.bits .or .u32 x y = Go.bits .or .u32 y x := by
  simp only [Go.bits, BitVec.or_comm]
theorem turned_is (x : Int) (n : Nat) (h0 : 0 < n) (h : n ≤ 32) : sawyerref01_turned.f x (n : Int) = some (Sha.rot x n) := by
  unfold sawyerref01_turned.f
  rw [if_pos (by omega), w64 _ (by omega) (by omega), if_pos (by omega)]
  congr 1
  unfold Sha.rot shr shl
  rw [bits_or_comm, IntKind.wrap_u32]
  have e1 : min (n : Int).toNat (IntKind.bits .u32) = n := by show min (n : Int).toNat 32 = n; omega
  have e2 : min (32 - (n : Int)).toNat (IntKind.bits .u32) = 32 - n := by show min (32 - (n : Int)).toNat 32 = 32 - n; omega
  rw [e1, e2]
theorem rd_nat (l : List Int) (i : Nat) : rd l (i : Int) = l.getD i 0 := by simp [rd]
theorem words_l1 (d : Nat) : ∀ (t : Nat) (p : List Int), t + d = 64 → 16 ≤ t → p.length = t → Ev (fun k => sawyerref01_words.l1 k p (t : Int)) (Sha.ext d p) := by
  induction d with
  | zero =>
    intro t p ht h16 hp
    refine Ev.step (f := fun _ => some p) (fun k => ?_) (Ev.now _)
    simp only [sawyerref01_words.l1]
    rw [if_neg (by omega)]
  | succ d ih =>
    intro t p ht h16 hp
    have := ih (t + 1) (p ++ [Sha.next p]) (by omega) (by omega) (by simp [hp])
    refine Ev.step (fun k => ?_) this
    simp only [sawyerref01_words.l1]
    rw [if_pos (by omega)]
    rw [show wrap64 ((t : Int) - 15) = ((t - 15 : Nat) : Int) by rw [w64 _ (by omega) (by omega)]; omega, show wrap64 ((t : Int) - 2) = ((t - 2 : Nat) : Int) by rw [w64 _ (by omega) (by omega)]; omega, show wrap64 ((t : Int) - 16) = ((t - 16 : Nat) : Int) by rw [w64 _ (by omega) (by omega)]; omega, show wrap64 ((t : Int) - 7) = ((t - 7 : Nat) : Int) by rw [w64 _ (by omega) (by omega)]; omega, show wrap64 ((t : Int) + 1) = ((t + 1 : Nat) : Int) by rw [w64 _ (by omega) (by omega)]; omega]
    simp only [rd_nat]
    have e7 := turned_is (p.getD (t - 15) 0) 7 (by omega) (by omega)
    have e18 := turned_is (p.getD (t - 15) 0) 18 (by omega) (by omega)
    have e17 := turned_is (p.getD (t - 2) 0) 17 (by omega) (by omega)
    have e19 := turned_is (p.getD (t - 2) 0) 19 (by omega) (by omega)
    rw [if_pos (by omega), if_pos (by omega), if_pos (by omega), if_pos (by omega)]
    erw [e7, e18, e17, e19]
    simp only [Option.bind_some]
    rw [if_pos (by omega), if_pos (by omega), if_pos (by omega), if_pos (by omega), if_pos (by omega)]
    congr 2
    unfold Sha.next
    rw [hp]
    show [_] = [(p.getD (t - 16) 0 + p.getD (t - 7) 0 + Sha.small0 (p.getD (t - 15) 0) + Sha.small1 (p.getD (t - 2) 0)) % 4294967296]
    unfold Sha.small0 Sha.small1 Sha.xor
    congr 1
    omega
theorem words_l0 (l : List Int) (hl : l.length = 64) (hb : ∀ x ∈ l, 0 ≤ x ∧ x < 256) (d : Nat) : ∀ (i : Nat), i + d = 16 → Ev (fun k => sawyerref01_words.l0 k l (Sha.first i l) (i : Int)) (Sha.words l) := by
  induction d with
  | zero =>
    intro i hi
    obtain rfl : i = 16 := by omega
    refine Ev.step (fun k => ?_) (words_l1 48 16 (Sha.first 16 l) (by omega) (by omega) (Sha.first_length _ _))
    simp only [sawyerref01_words.l0]
    rw [if_neg (by omega)]
    rfl
  | succ d ih =>
    intro i hi
    refine Ev.step (fun k => ?_) (ih (i + 1) (by omega))
    simp only [sawyerref01_words.l0]
    rw [if_pos (by omega)]
    rw [show wrap64 (4 * (i : Int)) = ((4 * i : Nat) : Int) by rw [w64 _ (by omega) (by omega)]; omega]
    rw [show wrap64 (((4 * i : Nat) : Int) + 1) = ((4 * i + 1 : Nat) : Int) by rw [w64 _ (by omega) (by omega)]; omega, show wrap64 (((4 * i : Nat) : Int) + 2) = ((4 * i + 2 : Nat) : Int) by rw [w64 _ (by omega) (by omega)]; omega, show wrap64 (((4 * i : Nat) : Int) + 3) = ((4 * i + 3 : Nat) : Int) by rw [w64 _ (by omega) (by omega)]; omega, show wrap64 ((i : Int) + 1) = ((i + 1 : Nat) : Int) by rw [w64 _ (by omega) (by omega)]; omega]
    simp only [rd_nat]
    rw [if_pos (by omega), if_pos (by omega), if_pos (by omega), if_pos (by omega), if_pos (by omega), if_pos (by omega), if_pos (by omega), if_pos (by omega), if_pos (by rw [Sha.first_length]; omega)]
    congr 1
    show _ ++ [_] = Sha.first i l ++ [Sha.word l i]
    congr 2
    unfold Sha.word
    have hm : ∀ j, j < 64 → 0 ≤ l.getD j 0 ∧ l.getD j 0 < 256 := fun j hj => by
      rw [List.getD_eq_getElem?_getD, List.getElem?_eq_getElem (by omega)]
      exact hb _ (List.getElem_mem _)
    have b0 := hm (4 * i) (by omega)
    have b1 := hm (4 * i + 1) (by omega)
    have b2 := hm (4 * i + 2) (by omega)
    have b3 := hm (4 * i + 3) (by omega)
    omega
theorem words_is (l : List Int) (hl : l.length = 64) (hb : ∀ x ∈ l, 0 ≤ x ∧ x < 256) : Ev (fun k => sawyerref01_words.f k l) (Sha.words l) :=
  words_l0 l hl hb 16 0 (by omega)
theorem take_l1 (s r : List Int) (hs : s.length = 8) (hr : r.length = 8) (d : Nat) : ∀ (i : Nat), i + d = 8 → Ev (fun k => sawyerref01_take.l1 k s r ((List.zipWith (fun x y => (x + y) % 4294967296) s r).take i) (i : Int)) (List.zipWith (fun x y => (x + y) % 4294967296) s r) := by
  induction d with
  | zero =>
    intro i hi
    refine Ev.step (f := fun _ => some _) (fun k => ?_) (Ev.now _)
    simp only [sawyerref01_take.l1]
    rw [if_neg (by omega), List.take_of_length_le (by simp; omega)]
  | succ d ih =>
    intro i hi
    refine Ev.step (fun k => ?_) (ih (i + 1) (by omega))
    simp only [sawyerref01_take.l1]
    rw [if_pos (by omega), if_pos (by omega), if_pos (by omega), if_pos (by omega), if_pos (by simp; omega), show wrap64 ((i : Int) + 1) = ((i + 1 : Nat) : Int) by rw [w64 _ (by omega) (by omega)]; omega]
    simp only [rd_nat]
    congr 1
    have hz : i < (List.zipWith (fun x y => (x + y) % 4294967296) s r).length := by simp; omega
    rw [List.take_succ_eq_append_getElem hz]
    simp [List.getD_eq_getElem?_getD, show i < s.length by omega, show i < r.length by omega]
theorem eight (s : List Int) (h : s.length = 8) : ∃ a b c d e f g i, s = [a, b, c, d, e, f, g, i] := by
  match s, h with
  | [a, b, c, d, e, f, g, i], _ => exact ⟨a, b, c, d, e, f, g, i, rfl⟩
theorem take_l0 (s0 W : List Int) (h0 : s0.length = 8) (hW : W.length = 64) (d : Nat) : ∀ (t : Nat) (s : List Int), t + d = 64 → s.length = 8 →
    Ev (fun k => sawyerref01_take.l0 k s0 W Sha.K s (t : Int)) (List.zipWith (fun x y => (x + y) % 4294967296) s0 (Sha.rounds (Sha.K.drop t) (W.drop t) s)) := by
  induction d with
  | zero =>
    intro t s ht hs
    obtain rfl : t = 64 := by omega
    rw [List.drop_eq_nil_of_le (show Sha.K.length ≤ 64 from Nat.le_refl _)]
    refine Ev.step (fun k => ?_) (take_l1 s0 s h0 hs 8 0 (by omega))
    simp only [sawyerref01_take.l0]
    rw [if_neg (by omega)]
    rfl
  | succ d ih =>
    intro t s ht hs
    obtain ⟨a, b, c, e4, e, f, g, h, rfl⟩ := eight s hs
    have hKl : t < Sha.K.length := show t < 64 by omega
    have hWl : t < W.length := by omega
    have hK : Sha.K.drop t = Sha.K.getD t 0 :: Sha.K.drop (t + 1) := by
      rw [List.drop_eq_getElem_cons hKl, List.getD_eq_getElem?_getD, List.getElem?_eq_getElem hKl]
      rfl
    have hWd : W.drop t = W.getD t 0 :: W.drop (t + 1) := by
      rw [List.drop_eq_getElem_cons hWl, List.getD_eq_getElem?_getD, List.getElem?_eq_getElem hWl]
      rfl
    rw [hK, hWd]
    simp only [Sha.rounds]
    have h2 := ih (t + 1) (Sha.step (Sha.K.getD t 0) (W.getD t 0) [a, b, c, e4, e, f, g, h]) (by omega) (Sha.step_length _ _ _ rfl)
    refine Ev.step (fun k => ?_) h2
    simp only [sawyerref01_take.l0]
    have t6 := turned_is e 6 (by omega) (by omega)
    have t11 := turned_is e 11 (by omega) (by omega)
    have t25 := turned_is e 25 (by omega) (by omega)
    have t2 := turned_is a 2 (by omega) (by omega)
    have t13 := turned_is a 13 (by omega) (by omega)
    have t22 := turned_is a 22 (by omega) (by omega)
    have r0 : rd [a, b, c, e4, e, f, g, h] 0 = a := rfl
    have r1 : rd [a, b, c, e4, e, f, g, h] 1 = b := rfl
    have r2 : rd [a, b, c, e4, e, f, g, h] 2 = c := rfl
    have r3 : rd [a, b, c, e4, e, f, g, h] 3 = e4 := rfl
    have r4 : rd [a, b, c, e4, e, f, g, h] 4 = e := rfl
    have r5 : rd [a, b, c, e4, e, f, g, h] 5 = f := rfl
    have r6 : rd [a, b, c, e4, e, f, g, h] 6 = g := rfl
    have r7 : rd [a, b, c, e4, e, f, g, h] 7 = h := rfl
    simp only [r0, r1, r2, r3, r4, r5, r6, r7, List.length_cons, List.length_nil, rd_nat]
    rw [if_pos (by omega), if_pos (by omega), if_pos (by omega), if_pos (by omega)]
    erw [t6, t11, t25]
    simp only [Option.bind_some]
    rw [if_pos (by omega), if_pos (by omega), if_pos (by omega), if_pos (by omega), if_pos (by omega)]
    erw [t2, t13, t22]
    simp only [Option.bind_some]
    rw [if_pos (by omega), if_pos (by omega), if_pos (by omega), show wrap64 ((t : Int) + 1) = ((t + 1 : Nat) : Int) by rw [w64 _ (by omega) (by omega)]; omega]
    congr 1
    show [_, _, _, _, _, _, _, _] = Sha.step (Sha.K.getD t 0) (W.getD t 0) [a, b, c, e4, e, f, g, h]
    unfold Sha.step Sha.x1 Sha.y1 Sha.big0 Sha.big1 Sha.ch Sha.maj Sha.xor Sha.and
    rw [show IntKind.u32.max = 4294967295 from rfl]
    congr 1
    · omega
    · congr 4
      omega
theorem take_is (s b : List Int) (hs : s.length = 8) (hl : b.length = 64) (hb : ∀ x ∈ b, 0 ≤ x ∧ x < 256) : Ev (fun k => sawyerref01_take.f k s b) (Sha.take s b) := by
  unfold sawyerref01_take.f
  refine Ev.bind (words_is b hl hb) ?_
  have ht : sawyerref01_table.f = some Sha.K := rfl
  simp only [ht, Option.bind_some, List.nil_append, List.length_nil]
  exact Ev.congr (fun k => by rw [if_pos (by omega)]; rfl) (take_l0 s (Sha.words b) hs (Sha.words_length b) 64 0 s (by omega) hs)
/-! ### Sum, loop by loop -/
theorem sum_l3 (s : List Int) (hs : s.length = 8) (d : Nat) : ∀ (i : Nat), i + d = 8 → Ev (fun k => sawyerref01_Sum.l3 k s (Sha.out (s.take i)) (i : Int)) (strOfNums (Sha.out s)) := by
  induction d with
  | zero =>
    intro i hi
    refine Ev.step (f := fun _ => some _) (fun k => ?_) (Ev.now _)
    simp only [sawyerref01_Sum.l3]
    rw [if_neg (by omega), List.take_of_length_le (by omega)]
  | succ d ih =>
    intro i hi
    refine Ev.step (fun k => ?_) (ih (i + 1) (by omega))
    simp only [sawyerref01_Sum.l3]
    rw [if_pos (by omega), if_pos (by omega), if_pos (by omega)]
    simp only [Option.bind_some, rd_nat]
    rw [if_pos (by rw [Sha.out_length]; simp; omega), show wrap64 ((i : Int) + 1) = ((i + 1 : Nat) : Int) by rw [w64 _ (by omega) (by omega)]; omega]
    congr 1
    have ho : Sha.out (s.take i ++ [s[i]'(by omega)]) = Sha.out (s.take i) ++ Sha.bytes4 (s[i]'(by omega)) := by unfold Sha.out; rw [List.flatMap_append]; simp
    rw [List.take_succ_eq_append_getElem (show i < s.length by omega), ho, List.getD_eq_getElem?_getD, List.getElem?_eq_getElem (by omega)]
    rfl
theorem blocks_step' (p s : List Int) (h : 64 ≤ p.length) : Sha.blocks (p.length / 64) p s = Sha.blocks ((p.drop 64).length / 64) (p.drop 64) (Sha.take s (p.take 64)) := by
  rw [List.length_drop, show p.length / 64 = (p.length - 64) / 64 + 1 by omega]
  rfl
theorem sum_l2 (p : List Int) (hm : p.length % 64 = 0) (hl : p.length ≤ 140737488355328) (hb : ∀ x ∈ p, 0 ≤ x ∧ x < 256) (d : Nat) : ∀ (i : Nat) (s : List Int), 64 * (i + d) = p.length → s.length = 8 →
    Ev (fun k => sawyerref01_Sum.l2 k p s ((64 * i : Nat) : Int)) (strOfNums (Sha.out (Sha.blocks ((p.drop (64 * i)).length / 64) (p.drop (64 * i)) s))) := by
  induction d with
  | zero =>
    intro i s hi hs
    have hd : p.drop (64 * i) = [] := List.drop_eq_nil_of_le (by omega)
    rw [hd]
    refine Ev.step (fun k => ?_) (sum_l3 s hs 8 0 (by omega))
    simp only [sawyerref01_Sum.l2]
    rw [if_neg (by omega)]
    rfl
  | succ d ih =>
    intro i s hi hs
    have hlen : 64 ≤ (p.drop (64 * i)).length := by rw [List.length_drop]; omega
    have hT := take_is s ((p.drop (64 * i)).take 64) hs (by rw [List.length_take]; omega) (fun x hx => hb x (List.mem_of_mem_drop (List.mem_of_mem_take hx)))
    have h2 := ih (i + 1) (Sha.take s ((p.drop (64 * i)).take 64)) (by omega) (Sha.take_length _ _ hs)
    rw [blocks_step' _ _ hlen]
    have e1 : (p.drop (64 * i)).drop 64 = p.drop (64 * (i + 1)) := by rw [List.drop_drop]; rfl
    rw [e1]
    refine Ev.step (fun k => ?_) (Ev.bind (f := fun n a => sawyerref01_Sum.l2 n p a ((64 * (i + 1) : Nat) : Int)) hT h2)
    simp only [sawyerref01_Sum.l2]
    rw [if_pos (by omega), if_pos (by omega), show wrap64 (((64 * i : Nat) : Int) + 64) = ((64 * (i + 1) : Nat) : Int) by rw [w64 _ (by omega) (by omega)]; omega]
    rw [if_pos (by omega), if_pos (by omega)]
    have e2 : (p.take ((64 * (i + 1) : Nat) : Int).toNat).drop ((64 * i : Nat) : Int).toNat = (p.drop (64 * i)).take 64 := by
      rw [Int.toNat_natCast, Int.toNat_natCast, List.drop_take, show 64 * (i + 1) - 64 * i = 64 by omega]
    rw [e2]
theorem len8_snoc (n i : Nat) (h : i < 8) : (Sha.len8 n).take (i + 1) = (Sha.len8 n).take i ++ [(Sha.len8 n).getD i 0] := by
  rw [List.take_succ_eq_append_getElem (show i < (Sha.len8 n).length from h), List.getD_eq_getElem?_getD, List.getElem?_eq_getElem (show i < (Sha.len8 n).length from h)]
  rfl
theorem len8_at (n i : Nat) (h : i < 8) (hn : n ≤ 140737488355000) : shr .u64 (8 * (n : Int)) (8 * (7 - (i : Int))) % 256 = (Sha.len8 n).getD i 0 := by
  have hcs : i = 0 ∨ i = 1 ∨ i = 2 ∨ i = 3 ∨ i = 4 ∨ i = 5 ∨ i = 6 ∨ i = 7 := by omega
  rcases hcs with rfl | rfl | rfl | rfl | rfl | rfl | rfl | rfl <;> simp [shr, Sha.len8, IntKind.bits]
theorem sum_l1 (l p : List Int) (hl : l.length ≤ 140737488355000) (hp : p.length ≤ l.length + 64) (hpad : p ++ Sha.len8 l.length = Sha.pad l) (hb : ∀ x ∈ Sha.pad l, 0 ≤ x ∧ x < 256) (d : Nat) : ∀ (i : Nat), i + d = 8 →
    Ev (fun k => sawyerref01_Sum.l1 k (p ++ (Sha.len8 l.length).take i) (8 * (l.length : Int)) (7 - (i : Int))) (Sha.sum l) := by
  induction d with
  | zero =>
    intro i hi
    obtain rfl : i = 8 := by omega
    have hpl : (Sha.pad l).length = p.length + 8 := by rw [← hpad, List.length_append]; rfl
    have h2 := sum_l2 (Sha.pad l) (Sha.pad_length l) (by omega) hb ((Sha.pad l).length / 64) 0 Sha.H0 (by have := Sha.pad_length l; omega) rfl
    refine Ev.step (fun k => ?_) h2
    simp only [sawyerref01_Sum.l1]
    rw [if_neg (by omega), show p ++ (Sha.len8 l.length).take 8 = Sha.pad l from hpad]
    rfl
  | succ d ih =>
    intro i hi
    refine Ev.step (fun k => ?_) (ih (i + 1) (by omega))
    simp only [sawyerref01_Sum.l1]
    rw [if_pos (by omega), show wrap64 (8 * (7 - (i : Int))) = 8 * (7 - (i : Int)) by rw [w64 _ (by omega) (by omega)], if_pos (by omega), if_pos (by rw [List.length_append, List.length_take, show (Sha.len8 l.length).length = 8 from rfl]; omega), show wrap64 (7 - (i : Int) - 1) = 7 - ((i + 1 : Nat) : Int) by rw [w64 _ (by omega) (by omega)]; omega]
    rw [len8_at _ _ (by omega) hl, len8_snoc _ _ (by omega), List.append_assoc]
theorem pad_bytes (l : List Int) (hb : ∀ x ∈ l, 0 ≤ x ∧ x < 256) : ∀ x ∈ Sha.pad l, 0 ≤ x ∧ x < 256 := by
  intro x hx
  simp only [Sha.pad, List.mem_append, List.mem_cons, List.mem_replicate] at hx
  rcases hx with (hx | rfl | ⟨_, rfl⟩) | hx
  · exact hb x hx
  · omega
  · omega
  · simp only [Sha.len8, List.mem_cons, List.not_mem_nil, or_false] at hx
    omega
theorem sum_l0 (l : List Int) (hl : l.length ≤ 140737488355000) (hb : ∀ x ∈ l, 0 ≤ x ∧ x < 256) (d : Nat) : ∀ (j : Nat), j + d = (119 - l.length % 64) % 64 →
    Ev (fun k => sawyerref01_Sum.l0 k l (l ++ 128 :: List.replicate j 0)) (Sha.sum l) := by
  induction d with
  | zero =>
    intro j hj
    have hlen : (l ++ 128 :: List.replicate j (0 : Int)).length = l.length + 1 + j := by simp; omega
    have h2 := sum_l1 l (l ++ 128 :: List.replicate j 0) hl (by omega) (by rw [show j = (119 - l.length % 64) % 64 by omega]; rfl) (pad_bytes l hb) 8 0 (by omega)
    refine Ev.step (fun k => ?_) h2
    simp only [sawyerref01_Sum.l0]
    rw [if_pos (by omega)]
    have e : IntKind.u64.wrap (IntKind.u64.wrap (l.length : Int) * 8) = 8 * (l.length : Int) := by rw [IntKind.wrap_u64, IntKind.wrap_u64]; omega
    rw [e]
    simp
  | succ d ih =>
    intro j hj
    have hlen : (l ++ 128 :: List.replicate j (0 : Int)).length = l.length + 1 + j := by simp; omega
    refine Ev.step (fun k => ?_) (ih (j + 1) (by omega))
    simp only [sawyerref01_Sum.l0]
    rw [if_neg (by omega), if_pos (by omega)]
    congr 1
    rw [List.replicate_succ']
    simp
theorem ok_iff (l : List Int) : Sha.ok l = true ↔ (∀ x ∈ l, 0 ≤ x ∧ x < 256) ∧ l.length ≤ 140737488355000 := by simp [Sha.ok]
/-- THE DOCUMENT's HASH IS Sha.sum. -/
theorem ref_sum (l : List Int) (h : Sha.ok l = true) : Ev (fun k => sawyerref01_Sum.f k l) (Sha.sum l) := by
  obtain ⟨hb, hl⟩ := (ok_iff l).1 h
  unfold sawyerref01_Sum.f
  refine Ev.congr (fun k => ?_) (sum_l0 l hl hb ((119 - l.length % 64) % 64) 0 (by omega))
  rw [if_pos (by simp; omega)]
  simp only [Option.bind_some, List.nil_append]
  rw [if_pos (by omega)]
  rfl
end Go.Proofs.YtopacnaiedlaaaaDoor.F
end
section
-- WRITTEN BY A PROGRAM OF THIS PLACE (wip/tools/pp.sh: the print, turned for functions proved by hand). Lean checks it.
namespace Go.Proofs.YtopacnaiedlaaaaDoor.F
open Go.RowKit Go.Proofs.YtopacnaiedlaaaaDoorW.PrintWords Go.Proofs.YtopacnaiedlaaaaDoorW.PrintLast Go.Proofs.YtopacnaiedlaaaaDoorW.PrintMore
attribute [local go_sem] max2_int min2_int max_two min_two max_three min_three max_four min_four   -- for this text's walks alone
set_option linter.unusedVariables false
set_option linter.unusedSimpArgs false
attribute [local go_sem high] eqA59
/-! ### sawyerref17_SameRow: function 11 -/
def sawyerref17_SameRow.l0 : Nat → List (S59) → List (S59) → Int → Option (Bool)
  | 0, _, _, _ => none
  | k + 1, x0, x1, x5 => if x5 < (x0.length : Int) then (if 0 ≤ x5 then (if x5 < (x1.length : Int) then (if (!(((rd_T59 x0 x5).f0) == ((rd_T59 x1 x5).f0)) || (!(((rd_T59 x0 x5).f1) == ((rd_T59 x1 x5).f1)))) = true then (some false) else (sawyerref17_SameRow.l0 k x0 x1 (wrap64 (x5 + 1)))) else (none)) else (none)) else (some true)
def sawyerref17_SameRow.f (k : Nat) (l0 : List (S59)) (l1 : List (S59)) : Option (Bool) := if (l0.length : Int) = (l1.length : Int) then (sawyerref17_SameRow.l0 k l0 l1 0) else (some false)
set_option maxHeartbeats 8000000 in
set_option maxRecDepth 100000 in
theorem sawyerref17_SameRow.calls (k : Nat) (A0 : Option Addr) (c0 : Nat) (l0 : List (S59)) (A1 : Option Addr) (c1 : Nat) (l1 : List (S59)) (r : Bool) (w : World) (hr0 : Kd.C k59 w A0 l0.length l0) (hc0 : l0.length ≤ c0) (hr1 : Kd.C k59 w A1 l1.length l1) (hc1 : l1.length ≤ c1) (h : sawyerref17_SameRow.f k l0 l1 = some r) :
    Calls Tryd.prog 11 #[.slice A0 l0.length c0, .slice A1 l1.length c1] w fun e w' => e = .returned (.bool r) ∧ Drawn0 w w' := by
  (have hu59 := Tryd.underlying59); (have HR0 := Aside0.mk hr0); (have HC0 := Aside0.mk hc0); (clear hr0 hc0); (have HR1 := Aside0.mk hr1); (have HC1 := Aside0.mk hc1); (clear hr1 hc1); (have H : (if (l0.length : Int) = (l1.length : Int) then (sawyerref17_SameRow.l0 k l0 l1 0) else (some false)) = some r := h); (clear h); (by_cases c3 : (l0.length : Int) = (l1.length : Int))
  · (rw [if_pos c3] at H); (have c3b0 : ((l0.length : Int) == (l1.length : Int)) = true := beq_iff_eq.mpr c3); (have c3b1 : ((l0.length : Int) != (l1.length : Int)) = false := bne_eq_false_iff_eq.mpr c3); (have c3b2 : (l0.length == l1.length) = true := by first | simpa using c3 | (simp at c3 ⊢; omega)); (clear c3); (have H' := Aside0.mk H); (clear H); (go_enter Tryd.func11, Tryd.ntmps11); (go_wp2); (repeat (go_quiet (fail); try go_wp2)); (go_loopg [5] k (fun kq v5 w' => ∃ (x5_1 : Int), v5 = .int .i64 x5_1 ∧ Aside0 (sawyerref17_SameRow.l0 kq l0 l1 x5_1 = some r) ∧ Aside0 (kq ≤ k) ∧ Drawn0 w w'))
    case atStart => exact ⟨(0), (by first | rfl | (simp; done) | (simp [*]; done)), H', ⟨Nat.le_refl _⟩, by repeat (first | exact Drawn0.refl _ | apply Drawn0.step)⟩
    case round =>
      (clear H'); (try clear c1); (try clear p2); (try clear c3); (try clear c3b0); (try clear c3b1); (try clear c3b2); (obtain ⟨x5_1, rfl, HA, HK1, ⟨m1, rfl⟩⟩ := hrel)
      cases gk with
      | zero => exact absurd HA.out (by simp [sawyerref17_SameRow.l0])
      | succ k1 =>
        (have H := HA.out); (clear HA); (simp only [sawyerref17_SameRow.l0] at H); (by_cases c4 : x5_1 < (l0.length : Int))
        · (rw [if_pos c4] at H); (have c4b0 : decide (x5_1 < (l0.length : Int)) = true := decide_eq_true c4); (clear c4); (by_cases c5 : 0 ≤ x5_1)
          · (rw [if_pos c5] at H); (have c5b0 : decide (0 ≤ x5_1) = true := decide_eq_true c5); (clear c5); (by_cases c6 : x5_1 < (l1.length : Int))
            · (rw [if_pos c6] at H); (have c6b0 : decide (x5_1 < (l1.length : Int)) = true := decide_eq_true c6); (clear c6); (by_cases c7 : (!(((rd_T59 l0 x5_1).f0) == ((rd_T59 l1 x5_1).f0)) || (!(((rd_T59 l0 x5_1).f1) == ((rd_T59 l1 x5_1).f1)))) = true)
              · (rw [if_pos c7] at H); (have c7b0 : (!(((rd_T59 l0 x5_1).f0) == ((rd_T59 l1 x5_1).f0)) || (!(((rd_T59 l0 x5_1).f1) == ((rd_T59 l1 x5_1).f1)))) = true := c7); (clear c7); (obtain rfl := Option.some.inj H); (have p150 : 0 ≤ (x5_1 : Int) := of_decide_eq_true (by first | (with_reducible assumption) | assumption)); (have q150 : x5_1 < (l0.length : Int) := of_decide_eq_true (by first | (with_reducible assumption) | assumption)); (obtain ⟨ad150, e150, hx150_0, hx150_1⟩ := at_T59 HR0.out x5_1 p150 q150)
                cases e150
                (replace p150 := eq_true p150); (replace q150 := eq_true q150); (have p151 : 0 ≤ (x5_1 : Int) := of_decide_eq_true (by first | (with_reducible assumption) | assumption)); (have q151 : x5_1 < (l1.length : Int) := of_decide_eq_true (by first | (with_reducible assumption) | assumption)); (obtain ⟨ad151, e151, hx151_0, hx151_1⟩ := at_T59 HR1.out x5_1 p151 q151)
                cases e151
                (replace p151 := eq_true p151); (replace q151 := eq_true q151); (go_wp2); (repeat (go_quiet (fail); try go_wp2)); (go_ret); (exact ⟨by first | rfl | (simp; done) | (simp [*]; done), by repeat (first | exact Drawn0.refl _ | apply Drawn0.step)⟩)
              · (rw [if_neg c7] at H); (have c7b0 : (!(((rd_T59 l0 x5_1).f0) == ((rd_T59 l1 x5_1).f0)) || (!(((rd_T59 l0 x5_1).f1) == ((rd_T59 l1 x5_1).f1)))) = false := by simpa using c7); (clear c7); (have H' := Aside0.mk H); (clear H); (have p150 : 0 ≤ (x5_1 : Int) := of_decide_eq_true (by first | (with_reducible assumption) | assumption)); (have q150 : x5_1 < (l0.length : Int) := of_decide_eq_true (by first | (with_reducible assumption) | assumption)); (obtain ⟨ad150, e150, hx150_0, hx150_1⟩ := at_T59 HR0.out x5_1 p150 q150)
                cases e150
                (replace p150 := eq_true p150); (replace q150 := eq_true q150); (have p151 : 0 ≤ (x5_1 : Int) := of_decide_eq_true (by first | (with_reducible assumption) | assumption)); (have q151 : x5_1 < (l1.length : Int) := of_decide_eq_true (by first | (with_reducible assumption) | assumption)); (obtain ⟨ad151, e151, hx151_0, hx151_1⟩ := at_T59 HR1.out x5_1 p151 q151)
                cases e151
                (replace p151 := eq_true p151); (replace q151 := eq_true q151); (go_wp2); (repeat (go_quiet (fail); try go_wp2)); (go_roundg k1)
                case measure => have := HK1.out; omega
                case rel => exact ⟨(wrap64 (x5_1 + 1)), (by first | rfl | (simp; done) | (simp [*]; done)), H', ⟨by have := HK1.out; omega⟩, by repeat (first | exact Drawn0.refl _ | apply Drawn0.step)⟩
            focus ((rw [if_neg c6] at H); (exact absurd H (by simp)))
          focus ((rw [if_neg c5] at H); (exact absurd H (by simp)))
        focus ((rw [if_neg c4] at H); (have c4b0 : decide (x5_1 < (l0.length : Int)) = false := decide_eq_false c4); (clear c4); (obtain rfl := Option.some.inj H); (go_wp2); (repeat (go_quiet (fail); try go_wp2)); (go_ret); (exact ⟨by first | rfl | (simp; done) | (simp [*]; done), by repeat (first | exact Drawn0.refl _ | apply Drawn0.step)⟩))
  focus ((rw [if_neg c3] at H); (have c3b0 : ((l0.length : Int) == (l1.length : Int)) = false := beq_eq_false_iff_ne.mpr c3); (have c3b1 : ((l0.length : Int) != (l1.length : Int)) = true := bne_iff_ne.mpr c3); (have c3b2 : (l0.length == l1.length) = false := by first | simpa using c3 | (simp at c3 ⊢; omega)); (obtain rfl := Option.some.inj H); (go_enter Tryd.func11, Tryd.ntmps11); (go_wp2); (repeat (go_quiet (fail); try go_wp2)); (go_ret); (exact ⟨by first | rfl | (simp; done) | (simp [*]; done), by repeat (first | exact Drawn0.refl _ | apply Drawn0.step)⟩))
end Go.Proofs.YtopacnaiedlaaaaDoor.F
end
section
-- WRITTEN BY A PROGRAM OF THIS PLACE (wip/tools/pp.sh: the print, turned for functions proved by hand). Lean checks it.
namespace Go.Proofs.YtopacnaiedlaaaaDoor.F
open Go.RowKit Go.Proofs.YtopacnaiedlaaaaDoorW.PrintWords Go.Proofs.YtopacnaiedlaaaaDoorW.PrintLast Go.Proofs.YtopacnaiedlaaaaDoorW.PrintMore
attribute [local go_sem] max2_int min2_int max_two min_two max_three min_three max_four min_four   -- for this text's walks alone
set_option linter.unusedVariables false
set_option linter.unusedSimpArgs false
/-! ### sawyerlaw17_row: function 12 -/
def sawyerlaw17_row.l0 : Nat → List (S29) → List (S59) → Int → Option ((List (S59)))
  | 0, _, _, _ => none
  | k + 1, x0, x3, x4 => if x4 < (x0.length : Int) then (if 0 ≤ x4 then (if x3.length < 8796093022208 then (sawyerlaw17_row.l0 k x0 (x3 ++ [(⟨(rd_T29 x0 x4).f0, (rd_T29 x0 x4).f1⟩ : S59)]) (wrap64 (x4 + 1))) else (none)) else (none)) else (some x3)
def sawyerlaw17_row.f (k : Nat) (l0 : List (S29)) : Option ((List (S59))) := sawyerlaw17_row.l0 k l0 ([] : List (S59)) 0
def sawyerlaw17_row.T5 : Bool × List (List Nat × List Nat) := (true, [([], []), ([], []), ([], []), ([1, 2], [1, 2]), ([3], [3]), ([4], [4]), ([], []), ([], []), ([6, 7], [6, 7]), ([8], [8]), ([9], [9]), ([5, 10], [5, 10]), ([11], [11]), ([0, 12], [0, 12]), ([13, 13, 0, 1, 2, 3, 4, 5, 6, 7, 8, 9, 10, 11, 12, 13], [0, 13])])
def sawyerlaw17_row.B5 : List Nat := [0, 0, 0, 6, 14, 30, 0, 0, 192, 448, 960, 2046, 4094, 8191, 16383]
theorem sawyerlaw17_row.tab5 : rtab .any (opsOf Tryd.f12 5) = sawyerlaw17_row.T5 := by kernel_rfl
theorem sawyerlaw17_row.bits5 : waitsOk sawyerlaw17_row.T5.2 sawyerlaw17_row.B5 = true := by kernel_rfl
set_option maxHeartbeats 8000000 in
set_option maxRecDepth 100000 in
theorem sawyerlaw17_row.calls (k : Nat) (A0 : Option Addr) (c0 : Nat) (l0 : List (S29)) (r : List (S59)) (w : World) (hr0 : Kd.C k29 w A0 l0.length l0) (hc0 : l0.length ≤ c0) (h : sawyerlaw17_row.f k l0 = some r) :
    Calls Tryd.prog 12 #[.slice A0 l0.length c0] w fun e w' => ∃ v0_ : Value, e = .returned (v0_) ∧ Kd.R k59 59 w' w.heap.size (fun _ => True) v0_ r ∧ Below w.heap.size w w' := by
  (have hu59 := Tryd.underlying59); (have HR0 := Aside0.mk hr0); (have HC0 := Aside0.mk hc0); (clear hr0 hc0); (have HB := Aside0.mk (Below.refl w.heap.size w)); (have H : (sawyerlaw17_row.l0 k l0 ([] : List (S59)) 0) = some r := h); (clear h); (have H' := Aside0.mk H); (clear H); (go_enter Tryd.func12, Tryd.ntmps12); (go_wp2); (go_loopg [3, 4] k (fun kq v3 v4 w' => ∃ (x3_1 : List (S59)) (x4_1 : Int), v4 = .int .i64 x4_1 ∧ Aside0 (sawyerlaw17_row.l0 kq l0 x3_1 x4_1 = some r) ∧ Aside0 (kq ≤ k) ∧ Aside0 (Kd.R k59 59 w' w.heap.size (fun _ => True) v3 x3_1) ∧ Aside0 (Below w.heap.size w w')))
  case atStart => exact ⟨(([] : List (S59))), (0), (by first | rfl | (simp; done) | (simp [*]; done)), H', ⟨Nat.le_refl _⟩, ⟨by first | exact Kd.R_nil _ _ _ _ _ | exact Kd.N_nil _ _ _ _ _ | exact Kd.V_nil _ _ _ _ _ | exact Kd.Q_nil _ _ _ _ _ | exact Kd.S_nil _ _ _ _ _⟩, ⟨by repeat (first | (with_reducible first | exact HB.out | apply below_alloc | apply pw_below_drewN | apply below_drew1) | exact HB.out)⟩⟩
  case round =>
    (clear H'); (try clear c1); (obtain ⟨x3_1, x4_1, rfl, HA, HK1, HO_3, HB⟩ := hrel)
    cases gk with
    | zero => exact absurd HA.out (by simp [sawyerlaw17_row.l0])
    | succ k1 =>
      (have H := HA.out); (clear HA); (simp only [sawyerlaw17_row.l0] at H); (by_cases c2 : x4_1 < (l0.length : Int))
      · (rw [if_pos c2] at H); (have c2b0 : decide (x4_1 < (l0.length : Int)) = true := decide_eq_true c2); (clear c2); (by_cases c3 : 0 ≤ x4_1)
        · (rw [if_pos c3] at H); (have c3b0 : decide (0 ≤ x4_1) = true := decide_eq_true c3); (clear c3); (by_cases c4 : x3_1.length < 8796093022208)
          · (rw [if_pos c4] at H); (have LMc4 := Aside0.mk c4); (clear c4); (obtain ⟨y154, hy154⟩ : ∃ y_ : List (S59), y_ = (x3_1 ++ [(⟨(rd_T29 l0 x4_1).f0, (rd_T29 l0 x4_1).f1⟩ : S59)]) := ⟨_, rfl⟩); (replace H : (sawyerlaw17_row.l0 k1 l0 y154 (wrap64 (x4_1 + 1))) = some r := by first | (rw [hy154]; with_reducible exact H) | (have H2_ := (Option.bind_some _ _).symm.trans H; rw [hy154]; with_reducible exact H2_) | (have H2_ := (Option.bind_some _ _).symm.trans H; with_reducible exact H2_) | with_reducible exact H | (rw [hy154]; exact H) | exact H); (have Ny154 := Aside0.mk hy154); (clear hy154); (have H' := Aside0.mk H); (clear H); (try go_wp2); (have n0_ := Aside0.mk (Kd.R_drew HO_3.out)); (have n1_ := Aside0.mk (below_drew1 HB.out)); (clear HO_3); (clear HB); (have HO_3 := n0_); (have HB := n1_); (clear n0_ n1_); (have p152 : 0 ≤ (x4_1 : Int) := of_decide_eq_true (by first | (with_reducible assumption) | assumption)); (have q152 : x4_1 < (l0.length : Int) := of_decide_eq_true (by first | (with_reducible assumption) | assumption)); (obtain ⟨ad152, e152, hx152_0, hx152_1⟩ := at_T29 HR0.out x4_1 p152 q152); (have hw152_1 := hx152_1); (have hw152_0 := hx152_0)
            cases e152
            (replace hx152_0 := (HB.out.cell (World.block_lt_of_cell? w _ hx152_0)).trans hx152_0); (replace hx152_1 := (HB.out.cell (World.block_lt_of_cell? w _ hx152_1)).trans hx152_1); (replace p152 := eq_true p152); (replace q152 := eq_true q152); (have p153 : 0 ≤ (x4_1 : Int) := of_decide_eq_true (by first | (with_reducible assumption) | assumption)); (have q153 : x4_1 < (l0.length : Int) := of_decide_eq_true (by first | (with_reducible assumption) | assumption)); (obtain ⟨ad153, e153, hx153_0, hx153_1⟩ := at_T29 HR0.out x4_1 p153 q153); (have hw153_1 := hx153_1); (have hw153_0 := hx153_0); (obtain rfl : ad152 = ad153 := (by injection e153)); (replace hx153_0 := (HB.out.cell (World.block_lt_of_cell? w _ hx153_0)).trans hx153_0); (replace hx153_1 := (HB.out.cell (World.block_lt_of_cell? w _ hx153_1)).trans hx153_1); (replace p153 := eq_true p153); (replace q153 := eq_true q153); (refine start_ (n := 15) (S := fun w' => w'.cell? (ad152.add ((x4_1).toNat * 2)) = some (.int .i64 ((rd_T29 l0 x4_1).f0)) ∧ w'.cell? ⟨(ad152.add ((x4_1).toNat * 2)).block, (ad152.add ((x4_1).toNat * 2)).off + 1, none⟩ = some (.int .i64 ((rd_T29 l0 x4_1).f1)) ∧ w'.cell? (ad152.add ((x4_1).toNat * 2)) = some (.int .i64 ((rd_T29 l0 x4_1).f0)) ∧ w'.cell? ⟨(ad152.add ((x4_1).toNat * 2)).block, (ad152.add ((x4_1).toNat * 2)).off + 1, none⟩ = some (.int .i64 ((rd_T29 l0 x4_1).f1))) (ds := []) (B01 15 0) (by kernel_rfl) rfl rfl ⟨((HB.out.cell (World.block_lt_of_cell? w _ hw152_0)).trans hw152_0), ((HB.out.cell (World.block_lt_of_cell? w _ hw152_1)).trans hw152_1), ((HB.out.cell (World.block_lt_of_cell? w _ hw153_0)).trans hw153_0), ((HB.out.cell (World.block_lt_of_cell? w _ hw153_1)).trans hw153_1)⟩ (fun hHeld => ?_); refine with_tabW sawyerlaw17_row.tab5 sawyerlaw17_row.bits5 (fun HT_ HW_ => ?_)); (generalize wr.drew = w5 at HO_3 HB hx152_0 hx152_1 hx153_0 hx153_1 hHeld ⊢); (refine pure_ (i := 0) (N := some 11) (v := ?_) (a' := ?_) (B01 15 1) rfl rfl (any_of HT_.out (by kernel_rfl)) (fun _ _ _ h => h) (Or.inl ⟨by rfl, ?_⟩) ?_ ?_); (rotate_left); (focus ((intro w'); (go_simp); (with_reducible rfl))); (rotate_left); (focus ((simp only [Act.put, List.setIfInBounds_toArray, List.set_cons_zero, List.set_cons_succ, i64_w, i32_w]); (rfl))); (refine pure_ (i := 1) (N := some 12) (v := ?_) (a' := ?_) (B01 15 3) rfl rfl (any_of HT_.out (by kernel_rfl)) (fun _ _ _ h => h) (Or.inl ⟨by rfl, ?_⟩) ?_ ?_); (rotate_left); (focus ((intro w'); (go_simp); (with_reducible rfl))); (rotate_left); (focus ((simp only [Act.put, List.setIfInBounds_toArray, List.set_cons_zero, List.set_cons_succ, i64_w, i32_w]); (rfl))); (refine pure_ (i := 2) (N := some 13) (v := ?_) (a' := ?_) (B01 15 7) rfl rfl (any_of HT_.out (by kernel_rfl)) (fun _ _ _ h => h) (Or.inl ⟨by rfl, ?_⟩) ?_ ?_); (rotate_left); (focus ((intro w'); (go_simp); (with_reducible rfl))); (rotate_left); (focus ((simp only [Act.put, List.setIfInBounds_toArray, List.set_cons_zero, List.set_cons_succ, i64_w, i32_w]); (rfl))); (refine pure_ (i := 3) (N := some 14) (v := ?_) (a' := ?_) (B01 15 15) rfl rfl (any_of HT_.out (by kernel_rfl)) (fun _ _ _ h => h) (Or.inl ⟨by rfl, ?_⟩) ?_ ?_); (rotate_left); (focus ((intro w'); (go_simp); (with_reducible rfl))); (rotate_left); (focus ((simp only [Act.put, List.setIfInBounds_toArray, List.set_cons_zero, List.set_cons_succ, i64_w, i32_w]); (rfl))); (refine pure_ (i := 4) (N := some 15) (v := ?_) (a' := ?_) (B01 15 31) rfl rfl (any_of HT_.out (by kernel_rfl)) (fun _ _ _ h => h) (Or.inl ⟨by rfl, ?_⟩) ?_ ?_); (rotate_left); (focus ((intro w'); (go_simp); (with_reducible rfl))); (rotate_left); (focus ((simp only [Act.put, List.setIfInBounds_toArray, List.set_cons_zero, List.set_cons_succ, i64_w, i32_w]); (rfl))); (refine pure_ (i := 6) (N := some 17) (v := ?_) (a' := ?_) (B01 15 95) rfl rfl (any_of HT_.out (by kernel_rfl)) (fun _ _ _ h => h) (Or.inl ⟨by rfl, ?_⟩) ?_ ?_); (rotate_left); (focus ((intro w'); (go_simp); (with_reducible rfl))); (rotate_left); (focus ((simp only [Act.put, List.setIfInBounds_toArray, List.set_cons_zero, List.set_cons_succ, i64_w, i32_w]); (rfl))); (refine pure_ (i := 7) (N := some 18) (v := ?_) (a' := ?_) (B01 15 223) rfl rfl (any_of HT_.out (by kernel_rfl)) (fun _ _ _ h => h) (Or.inl ⟨by rfl, ?_⟩) ?_ ?_); (rotate_left); (focus ((intro w'); (go_simp); (with_reducible rfl))); (rotate_left); (focus ((simp only [Act.put, List.setIfInBounds_toArray, List.set_cons_zero, List.set_cons_succ, i64_w, i32_w]); (rfl))); (refine pure_ (i := 8) (N := some 19) (v := ?_) (a' := ?_) (B01 15 479) rfl rfl (any_of HT_.out (by kernel_rfl)) (fun _ _ _ h => h) (Or.inl ⟨by rfl, ?_⟩) ?_ ?_); (rotate_left); (focus ((intro w'); (go_simp); (with_reducible rfl))); (rotate_left); (focus ((simp only [Act.put, List.setIfInBounds_toArray, List.set_cons_zero, List.set_cons_succ, i64_w, i32_w]); (rfl))); (refine pure_ (i := 9) (N := some 20) (v := ?_) (a' := ?_) (B01 15 991) rfl rfl (any_of HT_.out (by kernel_rfl)) (fun _ _ _ h => h) (Or.inl ⟨by rfl, ?_⟩) ?_ ?_); (rotate_left); (focus ((intro w'); (go_simp); (with_reducible rfl))); (rotate_left)
            (focus ((simp only [Act.put, List.setIfInBounds_toArray, List.set_cons_zero, List.set_cons_succ, i64_w, i32_w]); (rfl))); (refine take_ (i := 5) (N := some 16) (v := ?_) (a' := ?_) (B01 15 1023) rfl rfl (take_ofW HT_.out HW_.out (by kernel_rfl)) (fun _ _ _ h => h) (Or.inl ⟨by rfl, ?_⟩) hHeld ?_ ?_); (rotate_left); (focus ((rintro w' ⟨s0, s1, s2, s3⟩); (go_simp); (with_reducible rfl))); (rotate_left); (focus ((simp only [Act.put, List.setIfInBounds_toArray, List.set_cons_zero, List.set_cons_succ, i64_w, i32_w]); (rfl))); (refine take_ (i := 10) (N := some 21) (v := ?_) (a' := ?_) (B01 15 2047) rfl rfl (take_ofW HT_.out HW_.out (by kernel_rfl)) (fun _ _ _ h => h) (Or.inl ⟨by rfl, ?_⟩) hHeld ?_ ?_); (rotate_left); (focus ((rintro w' ⟨s0, s1, s2, s3⟩); (go_simp); (with_reducible rfl))); (rotate_left); (focus ((simp only [Act.put, List.setIfInBounds_toArray, List.set_cons_zero, List.set_cons_succ, i64_w, i32_w]); (rfl))); (refine pure_ (i := 11) (N := some 22) (v := ?_) (a' := ?_) (B01 15 4095) rfl rfl (any_of HT_.out (by kernel_rfl)) (fun _ _ _ h => h) (Or.inl ⟨by rfl, ?_⟩) ?_ ?_); (rotate_left); (focus ((intro w'); (go_simp); (with_reducible rfl))); (rotate_left); (focus ((simp only [Act.put, List.setIfInBounds_toArray, List.set_cons_zero, List.set_cons_succ, i64_w, i32_w]); (rfl))); (refine one_ (i := 12) (N := some 23) (B01 15 8191) rfl rfl (one_of HT_.out (by kernel_rfl)) (by decide) (fun K hK => ?_)); (refine value_ (w1 := ?_) (v := ?_) (by rfl) rfl ?_ ?_); (rotate_left 2); (focus ((go_simp); (constructor); (focus (rfl)); (focus (rfl)))); (refine hK.out _ _ ⟨(World.cell?_alloc_lt _ _ _ (World.block_lt_of_cell? _ _ (((HB.out.cell (World.block_lt_of_cell? w _ hw152_0)).trans hw152_0)))).trans (((HB.out.cell (World.block_lt_of_cell? w _ hw152_0)).trans hw152_0)), (World.cell?_alloc_lt _ _ _ (World.block_lt_of_cell? _ _ (((HB.out.cell (World.block_lt_of_cell? w _ hw152_1)).trans hw152_1)))).trans (((HB.out.cell (World.block_lt_of_cell? w _ hw152_1)).trans hw152_1)), (World.cell?_alloc_lt _ _ _ (World.block_lt_of_cell? _ _ (((HB.out.cell (World.block_lt_of_cell? w _ hw153_0)).trans hw153_0)))).trans (((HB.out.cell (World.block_lt_of_cell? w _ hw153_0)).trans hw153_0)), (World.cell?_alloc_lt _ _ _ (World.block_lt_of_cell? _ _ (((HB.out.cell (World.block_lt_of_cell? w _ hw153_1)).trans hw153_1)))).trans (((HB.out.cell (World.block_lt_of_cell? w _ hw153_1)).trans hw153_1))⟩ (fun hHeld => ?_)); (clear hK K); (refine norm_ (a' := ?_) ?_ ?_); (rotate_left); (focus ((show Act.put _ (some 23) _ = _); (simp only [Act.put, List.setIfInBounds_toArray, List.set_cons_zero, List.set_cons_succ, i64_w, i32_w]); (rfl))); (refine one_ (i := 13) (N := some 24) (B01 15 16383) rfl rfl (one_of HT_.out (by kernel_rfl)) (by decide) (fun K hK => ?_)); (refine Kd.R_append_step k59 (w0 := w) w.heap.size (by rfl) (.tmp 11) (.tmp 23) 31 59 (.agg #[(.int .i64 0), (.int .i64 0)]) 16 rfl Tryd.underlying31 info59 rfl (by decide) (by omega) u3 x3_1 (⟨(rd_T29 l0 x4_1).f0, (rd_T29 l0 x4_1).f1⟩ : S59) [.int .i64 ((rd_T29 l0 x4_1).f0), .int .i64 ((rd_T29 l0 x4_1).f1)] (fun _ => True) (fun _ => False) rfl rfl ?aP (fun _ hk => hk.elim) ?aF ?aO ?aB ?aS ?aL ?_); ((case aP => exact k59_mkM _ _ _ (⟨(rd_T29 l0 x4_1).f0, (rd_T29 l0 x4_1).f1⟩ : S59))); ((case aB => exact (by repeat (first | (with_reducible first | exact HB.out | apply below_alloc | apply pw_below_drewN | apply below_drew1) | exact HB.out)))); ((case aF => exact (fun _ _ => trivial))); ((case aO => exact (by (with_reducible repeat (first | apply Kd.R_alloc | apply Kd.R_drewN | apply Kd.R_drew)); exact HO_3.out))); ((case aS => exact (below_size (by repeat (first | (with_reducible first | exact HB.out | apply below_alloc | apply pw_below_drewN | apply below_drew1) | exact HB.out))))); ((case aL => have := LMc4.out; omega)); (intro v155 w6 ho hb hg hat); (rw [← Ny154.out] at ho); (have n0_ := Aside0.mk (hb)); (have n1_ := Aside0.mk (ho)); (clear HB); (clear HO_3); (have HB := n0_); (have HO156 := n1_); (clear n0_ n1_); (clear ho hb hg hat); (refine hK.out _ _ ⟨((HB.out.cell (World.block_lt_of_cell? w _ hw152_0)).trans hw152_0), ((HB.out.cell (World.block_lt_of_cell? w _ hw152_1)).trans hw152_1), ((HB.out.cell (World.block_lt_of_cell? w _ hw153_0)).trans hw153_0), ((HB.out.cell (World.block_lt_of_cell? w _ hw153_1)).trans hw153_1)⟩ (fun hHeld => ?_)); (clear hK K); (refine norm_ (a' := ?_) ?_ ?_); (rotate_left); (focus ((show Act.put _ (some 24) _ = _); (simp only [Act.put, List.setIfInBounds_toArray, List.set_cons_zero, List.set_cons_succ, i64_w, i32_w]); (rfl))); (refine pure_ (i := 14) (N := some 3) (v := ?_) (a' := ?_) (B01 15 32767) rfl rfl (any_of HT_.out (by kernel_rfl)) (fun _ _ _ h => h) (Or.inl ⟨by rfl, ?_⟩) ?_ ?_); (rotate_left); (focus ((intro w'); (go_simp); (with_reducible rfl))); (rotate_left); (focus ((simp only [Act.put, List.setIfInBounds_toArray, List.set_cons_zero, List.set_cons_succ, i64_w, i32_w]); (rfl))); (refine done_ (done_of HT_.out (by kernel_rfl)) ?_); (try go_wp2); (go_roundg k1)
            case measure => have := HK1.out; omega
            case rel => exact ⟨(y154), (wrap64 (x4_1 + 1)), (by first | rfl | (simp; done) | (simp [*]; done)), H', ⟨by have := HK1.out; omega⟩, ⟨by (with_reducible repeat (first | apply Kd.R_alloc | apply Kd.R_drewN | apply Kd.R_drew)); exact HO156.out⟩, ⟨by repeat (first | (with_reducible first | exact HB.out | apply below_alloc | apply pw_below_drewN | apply below_drew1) | exact HB.out)⟩⟩
          focus ((rw [if_neg c4] at H); (exact absurd H (by simp)))
        focus ((rw [if_neg c3] at H); (exact absurd H (by simp)))
      focus ((rw [if_neg c2] at H); (have c2b0 : decide (x4_1 < (l0.length : Int)) = false := decide_eq_false c2); (clear c2); (obtain rfl := Option.some.inj H); (go_wp2); (go_ret); (exact ⟨_, by first | rfl | (simp [errW_none, errW_some] <;> rfl) | (simp [*, errW_none, errW_some] <;> rfl), by (with_reducible repeat (first | apply Kd.R_alloc | apply Kd.R_drewN | apply Kd.R_drew)); exact HO_3.out, by repeat (first | (with_reducible first | exact HB.out | apply below_alloc | apply pw_below_drewN | apply below_drew1) | exact HB.out)⟩))
end Go.Proofs.YtopacnaiedlaaaaDoor.F
end
section
-- WRITTEN BY A PROGRAM OF THIS PLACE (wip/tools/pp.sh: the print, turned for functions proved by hand). Lean checks it.
namespace Go.Proofs.YtopacnaiedlaaaaDoor.F
open Go.RowKit Go.Proofs.YtopacnaiedlaaaaDoorW.PrintWords Go.Proofs.YtopacnaiedlaaaaDoorW.PrintLast Go.Proofs.YtopacnaiedlaaaaDoorW.PrintMore
attribute [local go_sem] max2_int min2_int max_two min_two max_three min_three max_four min_four   -- for this text's walks alone
set_option linter.unusedVariables false
set_option linter.unusedSimpArgs false
/-! ### sawyerref17_path: function 34 -/
def sawyerref17_path.f : Nat → Int → Int → Int → Option ((List (List (S59))))
  | 0, _, _, _ => none
  | k + 1, a0, a1, a2 => if (wrap64 (a2 - a1)) = 1 then (some ([] : List (List (S59)))) else ((sawyerref15_Cut.f k (wrap64 (a2 - a1))).bind fun t165 => (if a0 < (wrap64 (a1 + t165)) then ((sawyerref17_path.f k a0 a1 (wrap64 (a1 + t165))).bind fun t166 => ((sawyerref17_sure.f k (wrap64 (a1 + t165)) a2).bind fun t169 => (if t166.length < 5864062014805 then (some (t166 ++ [t169])) else (none)))) else ((sawyerref17_path.f k a0 (wrap64 (a1 + t165)) a2).bind fun t175 => ((sawyerref17_sure.f k a1 (wrap64 (a1 + t165))).bind fun t178 => (if t175.length < 5864062014805 then (some (t175 ++ [t178])) else (none))))))
set_option maxHeartbeats 8000000 in
set_option maxRecDepth 100000 in
theorem sawyerref17_path.calls (k : Nat) : ∀ (a0 : Int) (a1 : Int) (a2 : Int) (r : List (List (S59))) (w : World) (h : sawyerref17_path.f k a0 a1 a2 = some r),
    Calls Tryd.prog 34 #[.int .i64 a0, .int .i64 a1, .int .i64 a2] w fun e w' => ∃ v0_ : Value, e = .returned (v0_) ∧ Kd.S (Kd.slice 59 k59) 31 w' w.heap.size (fun _ => True) v0_ r ∧ Below w.heap.size w w' := by
  induction k using Nat.strongRecOn with
  | _ k ih =>
  intro a0 a1 a2 r w h
  cases k with
  | zero => exact absurd h (by simp [sawyerref17_path.f])
  | succ k =>
  (simp only [sawyerref17_path.f] at h); (have HB := Aside0.mk (Below.refl w.heap.size w)); (have H : (if (wrap64 (a2 - a1)) = 1 then (some ([] : List (List (S59)))) else ((sawyerref15_Cut.f k (wrap64 (a2 - a1))).bind fun t165 => (if a0 < (wrap64 (a1 + t165)) then ((sawyerref17_path.f k a0 a1 (wrap64 (a1 + t165))).bind fun t166 => ((sawyerref17_sure.f k (wrap64 (a1 + t165)) a2).bind fun t169 => (if t166.length < 5864062014805 then (some (t166 ++ [t169])) else (none)))) else ((sawyerref17_path.f k a0 (wrap64 (a1 + t165)) a2).bind fun t175 => ((sawyerref17_sure.f k a1 (wrap64 (a1 + t165))).bind fun t178 => (if t175.length < 5864062014805 then (some (t175 ++ [t178])) else (none))))))) = some r := h); (clear h); (by_cases c4 : (wrap64 (a2 - a1)) = 1); (focus ((rw [if_pos c4] at H); (have c4b0 : ((wrap64 (a2 - a1)) == 1) = true := beq_iff_eq.mpr c4); (have c4b1 : ((wrap64 (a2 - a1)) != 1) = false := bne_eq_false_iff_eq.mpr c4); (clear c4); (obtain rfl := Option.some.inj H); (go_enter Tryd.func34, Tryd.ntmps34); (go_wp2); (go_ret); (exact ⟨_, by first | rfl | (simp [errW_none, errW_some] <;> rfl) | (simp [*, errW_none, errW_some] <;> rfl), by first | exact Kd.S_nil _ _ _ _ _ | exact Kd.N_nil _ _ _ _ _ | exact Kd.V_nil _ _ _ _ _ | exact Kd.Q_nil _ _ _ _ _ | exact Kd.R_nil _ _ _ _ _, by repeat (first | (with_reducible first | exact HB.out | apply below_alloc | apply pw_below_drewN | apply below_drew1) | exact HB.out)⟩)))
  · (rw [if_neg c4] at H); (have c4b0 : ((wrap64 (a2 - a1)) == 1) = false := beq_eq_false_iff_ne.mpr c4); (have c4b1 : ((wrap64 (a2 - a1)) != 1) = true := bne_iff_ne.mpr c4); (replace H := Option.bind_eq_some_iff.mp H); (obtain ⟨t165, A50, H⟩ := H); (replace H : (if a0 < (wrap64 (a1 + t165)) then ((sawyerref17_path.f k a0 a1 (wrap64 (a1 + t165))).bind fun t166 => ((sawyerref17_sure.f k (wrap64 (a1 + t165)) a2).bind fun t169 => (if t166.length < 5864062014805 then (some (t166 ++ [t169])) else (none)))) else ((sawyerref17_path.f k a0 (wrap64 (a1 + t165)) a2).bind fun t175 => ((sawyerref17_sure.f k a1 (wrap64 (a1 + t165))).bind fun t178 => (if t175.length < 5864062014805 then (some (t175 ++ [t178])) else (none))))) = some r := H); (have A5 := Aside0.mk A50); (clear A50); (by_cases c6 : a0 < (wrap64 (a1 + t165)))
    · (rw [if_pos c6] at H); (have c6b0 : decide (a0 < (wrap64 (a1 + t165))) = true := decide_eq_true c6); (clear c6); (replace H := Option.bind_eq_some_iff.mp H); (obtain ⟨t166, A70, H⟩ := H); (replace H : ((sawyerref17_sure.f k (wrap64 (a1 + t165)) a2).bind fun t169 => (if t166.length < 5864062014805 then (some (t166 ++ [t169])) else (none))) = some r := H); (have A7 := Aside0.mk A70); (clear A70); (replace H := Option.bind_eq_some_iff.mp H); (obtain ⟨t169, A80, H⟩ := H); (replace H : (if t166.length < 5864062014805 then (some (t166 ++ [t169])) else (none)) = some r := H); (have A8 := Aside0.mk A80); (clear A80); (by_cases c9 : t166.length < 5864062014805)
      (focus ((rw [if_pos c9] at H); (have LMc9 := Aside0.mk c9); (clear c9); (obtain ⟨y172, hy172⟩ : ∃ y_ : List (List (S59)), y_ = (t166 ++ [t169]) := ⟨_, rfl⟩); (replace H : (some y172) = some r := by first | (rw [hy172]; with_reducible exact H) | (have H2_ := (Option.bind_some _ _).symm.trans H; rw [hy172]; with_reducible exact H2_) | (have H2_ := (Option.bind_some _ _).symm.trans H; with_reducible exact H2_) | with_reducible exact H | (rw [hy172]; exact H) | exact H); (have Ny172 := Aside0.mk hy172); (clear hy172); (obtain rfl := Option.some.inj H); (go_enter Tryd.func34, Tryd.ntmps34); (go_wp2_with (first | ((with_reducible refine gate_callee (f := 55) rfl ?_); refine goesL_ (some 16) rfl rfl Tryd.func55 (by kernel_rfl) rfl #[.int .i64 (wrap64 (a2 - a1))] rfl (by (try simp only [List.map_toArray, List.map_cons, List.map_nil]); first | done | rfl | (simp only [List.length_drop, List.length_take]; rfl)) ?_; (with_reducible refine (sawyerref15_Cut.calls k (wrap64 (a2 - a1)) t165 _ A5.out).mono ?_); rintro e w10 ⟨rfl, hb⟩; refine ⟨_, rfl, ?_⟩; have n0_ := Aside0.mk (below_step (by repeat (first | (with_reducible first | exact HB.out | apply below_alloc | apply pw_below_drewN | apply below_drew1) | exact HB.out)) hb); clear HB; have HB := n0_; clear n0_; (try clear hb); (try clear hb2); (try clear hk); (try clear hi)) | ((with_reducible refine gate_callee (f := 34) rfl ?_); refine goesL_ (some 24) rfl rfl Tryd.func34 (by kernel_rfl) rfl #[.int .i64 a0, .int .i64 a1, .int .i64 (wrap64 (a1 + t165))] rfl (by (try simp only [List.map_toArray, List.map_cons, List.map_nil]); first | done | rfl | (simp only [List.length_drop, List.length_take]; rfl)) ?_; (with_reducible refine (ih k (by omega) a0 a1 (wrap64 (a1 + t165)) t166 _ A7.out).mono ?_); rintro e w11 ⟨v167, rfl, ho0, hb⟩; refine ⟨_, rfl, ?_⟩; have n0_ := Aside0.mk (Kd.S_lower ho0 (below_size (by repeat (first | (with_reducible first | exact HB.out | apply below_alloc | apply pw_below_drewN | apply below_drew1) | exact HB.out)))); have n1_ := Aside0.mk (below_step (by repeat (first | (with_reducible first | exact HB.out | apply below_alloc | apply pw_below_drewN | apply below_drew1) | exact HB.out)) hb); clear HB; have HO168 := n0_; have HB := n1_; clear n0_ n1_; (try clear hb); (try clear hb2); (try clear hk); (try clear hi); (try clear ho0)) | ((with_reducible refine gate_callee (f := 56) rfl ?_); refine goesL_ (some 27) rfl rfl Tryd.func56 (by kernel_rfl) rfl #[.int .i64 (wrap64 (a1 + t165)), .int .i64 a2] rfl (by (try simp only [List.map_toArray, List.map_cons, List.map_nil]); first | done | rfl | (simp only [List.length_drop, List.length_take]; rfl)) ?_; (with_reducible refine (sawyerref17_sure.calls k (wrap64 (a1 + t165)) a2 t169 _ A8.out).mono ?_); rintro e w12 ⟨v170, rfl, ho0, hb⟩; refine ⟨_, rfl, ?_⟩; have n0_ := Aside0.mk (Kd.S_elder' (by (with_reducible repeat (first | apply Kd.S_alloc | apply Kd.S_drewN | apply Kd.S_drew)); exact HO168.out) (Kd.R_base ho0) hb); have n1_ := Aside0.mk (Kd.R_lower ho0 (below_size (by repeat (first | (with_reducible first | exact HB.out | apply below_alloc | apply pw_below_drewN | apply below_drew1) | exact HB.out)))); have n2_ := Aside0.mk (below_step (by repeat (first | (with_reducible first | exact HB.out | apply below_alloc | apply pw_below_drewN | apply below_drew1) | exact HB.out)) hb); clear HO168; clear HB; have HO168 := n0_; have HO171 := n1_; have HB := n2_; clear n0_ n1_ n2_; (try clear hb); (try clear hb2); (try clear hk); (try clear hi); (try clear ho0); obtain ⟨Ao14, co14, eo14⟩ := Kd.R_slice HO171.out; subst eo14) | ((with_reducible refine gate_builtin (b := .append) (xs := #[.tmp 24, .tmp 28]) rfl ?_); at_builtin; refine Kd.S_append (Kd.slice 59 k59) (w0 := w) w.heap.size rfl (.tmp 24) (.tmp 28) 41 31 (.slice none 0 0) 24 rfl Tryd.underlying41 info31 rfl (by decide) (by omega) v167 t166 t169 [.slice Ao14 t169.length co14] (fun _ => True) (fun k_ => some k_ = (.slice Ao14 t169.length co14 : Value).ownBlock) rfl rfl ?aP (fun k_ hk_ => ((Kd.R_mono (ok' := fun k_ => ((fun _ => True)) k_ ∧ some k_ ≠ (v167 : Value).ownBlock) (Kd.R_apart' (HO171.out) (Kd.S_typed HO168.out) (by decide)) (fun k_ hk => ⟨trivial, hk.2⟩))).1 k_ hk_.symm) ?aF ?aO ?aB ?aS ?aL ?_; (case aP => exact Kd.M_row (Kd.R_mono (Kd.R_tight rfl (Kd.R_mono (ok' := fun k_ => ((fun _ => True)) k_ ∧ some k_ ≠ (v167 : Value).ownBlock) (Kd.R_apart' (HO171.out) (Kd.S_typed HO168.out) (by decide)) (fun k_ hk => ⟨trivial, hk.2⟩))) (fun _ h_ => h_))); (case aB => exact (by repeat (first | (with_reducible first | exact HB.out | apply below_alloc | apply pw_below_drewN | apply below_drew1) | exact HB.out))); (case aF => exact (fun _ _ => trivial)); (case aO => exact (by (with_reducible repeat (first | apply Kd.S_alloc | apply Kd.S_drewN | apply Kd.S_drew)); exact Kd.S_mono HO168.out (fun k_ hk => ⟨trivial, fun e_ => hk.2 e_⟩))); (case aS => exact (below_size (by repeat (first | (with_reducible first | exact HB.out | apply below_alloc | apply pw_below_drewN | apply below_drew1) | exact HB.out)))); (case aL => have := LMc9.out; omega); intro v173 w13 ho hb hg hat; rw [← Ny172.out] at ho; have n0_ := Aside0.mk (hb); have n1_ := Aside0.mk (ho); clear HB; clear HO168; clear HO171; have HB := n0_; have HO174 := n1_; clear n0_ n1_; clear ho hb hg hat))); (go_ret); (exact ⟨_, by first | rfl | (simp [errW_none, errW_some] <;> rfl) | (simp [*, errW_none, errW_some] <;> rfl), by (with_reducible repeat (first | apply Kd.S_alloc | apply Kd.S_drewN | apply Kd.S_drew)); exact HO174.out, by repeat (first | (with_reducible first | exact HB.out | apply below_alloc | apply pw_below_drewN | apply below_drew1) | exact HB.out)⟩))); (focus ((rw [if_neg c9] at H); (exact absurd H (by simp))))
    · (rw [if_neg c6] at H); (have c6b0 : decide (a0 < (wrap64 (a1 + t165))) = false := decide_eq_false c6); (clear c6); (replace H := Option.bind_eq_some_iff.mp H); (obtain ⟨t175, A150, H⟩ := H); (replace H : ((sawyerref17_sure.f k a1 (wrap64 (a1 + t165))).bind fun t178 => (if t175.length < 5864062014805 then (some (t175 ++ [t178])) else (none))) = some r := H); (have A15 := Aside0.mk A150); (clear A150); (replace H := Option.bind_eq_some_iff.mp H); (obtain ⟨t178, A160, H⟩ := H); (replace H : (if t175.length < 5864062014805 then (some (t175 ++ [t178])) else (none)) = some r := H); (have A16 := Aside0.mk A160); (clear A160); (by_cases c17 : t175.length < 5864062014805)
      (focus ((rw [if_pos c17] at H); (have LMc17 := Aside0.mk c17); (clear c17); (obtain ⟨y181, hy181⟩ : ∃ y_ : List (List (S59)), y_ = (t175 ++ [t178]) := ⟨_, rfl⟩); (replace H : (some y181) = some r := by first | (rw [hy181]; with_reducible exact H) | (have H2_ := (Option.bind_some _ _).symm.trans H; rw [hy181]; with_reducible exact H2_) | (have H2_ := (Option.bind_some _ _).symm.trans H; with_reducible exact H2_) | with_reducible exact H | (rw [hy181]; exact H) | exact H); (have Ny181 := Aside0.mk hy181); (clear hy181); (obtain rfl := Option.some.inj H); (go_enter Tryd.func34, Tryd.ntmps34); (go_wp2_with (first | ((with_reducible refine gate_callee (f := 55) rfl ?_); refine goesL_ (some 16) rfl rfl Tryd.func55 (by kernel_rfl) rfl #[.int .i64 (wrap64 (a2 - a1))] rfl (by (try simp only [List.map_toArray, List.map_cons, List.map_nil]); first | done | rfl | (simp only [List.length_drop, List.length_take]; rfl)) ?_; (with_reducible refine (sawyerref15_Cut.calls k (wrap64 (a2 - a1)) t165 _ A5.out).mono ?_); rintro e w18 ⟨rfl, hb⟩; refine ⟨_, rfl, ?_⟩; have n0_ := Aside0.mk (below_step (by repeat (first | (with_reducible first | exact HB.out | apply below_alloc | apply pw_below_drewN | apply below_drew1) | exact HB.out)) hb); clear HB; have HB := n0_; clear n0_; (try clear hb); (try clear hb2); (try clear hk); (try clear hi)) | ((with_reducible refine gate_callee (f := 34) rfl ?_); refine goesL_ (some 33) rfl rfl Tryd.func34 (by kernel_rfl) rfl #[.int .i64 a0, .int .i64 (wrap64 (a1 + t165)), .int .i64 a2] rfl (by (try simp only [List.map_toArray, List.map_cons, List.map_nil]); first | done | rfl | (simp only [List.length_drop, List.length_take]; rfl)) ?_; (with_reducible refine (ih k (by omega) a0 (wrap64 (a1 + t165)) a2 t175 _ A15.out).mono ?_); rintro e w19 ⟨v176, rfl, ho0, hb⟩; refine ⟨_, rfl, ?_⟩; have n0_ := Aside0.mk (Kd.S_lower ho0 (below_size (by repeat (first | (with_reducible first | exact HB.out | apply below_alloc | apply pw_below_drewN | apply below_drew1) | exact HB.out)))); have n1_ := Aside0.mk (below_step (by repeat (first | (with_reducible first | exact HB.out | apply below_alloc | apply pw_below_drewN | apply below_drew1) | exact HB.out)) hb); clear HB; have HO177 := n0_; have HB := n1_; clear n0_ n1_; (try clear hb); (try clear hb2); (try clear hk); (try clear hi); (try clear ho0)) | ((with_reducible refine gate_callee (f := 56) rfl ?_); refine goesL_ (some 36) rfl rfl Tryd.func56 (by kernel_rfl) rfl #[.int .i64 a1, .int .i64 (wrap64 (a1 + t165))] rfl (by (try simp only [List.map_toArray, List.map_cons, List.map_nil]); first | done | rfl | (simp only [List.length_drop, List.length_take]; rfl)) ?_; (with_reducible refine (sawyerref17_sure.calls k a1 (wrap64 (a1 + t165)) t178 _ A16.out).mono ?_); rintro e w20 ⟨v179, rfl, ho0, hb⟩; refine ⟨_, rfl, ?_⟩; have n0_ := Aside0.mk (Kd.S_elder' (by (with_reducible repeat (first | apply Kd.S_alloc | apply Kd.S_drewN | apply Kd.S_drew)); exact HO177.out) (Kd.R_base ho0) hb); have n1_ := Aside0.mk (Kd.R_lower ho0 (below_size (by repeat (first | (with_reducible first | exact HB.out | apply below_alloc | apply pw_below_drewN | apply below_drew1) | exact HB.out)))); have n2_ := Aside0.mk (below_step (by repeat (first | (with_reducible first | exact HB.out | apply below_alloc | apply pw_below_drewN | apply below_drew1) | exact HB.out)) hb); clear HO177; clear HB; have HO177 := n0_; have HO180 := n1_; have HB := n2_; clear n0_ n1_ n2_; (try clear hb); (try clear hb2); (try clear hk); (try clear hi); (try clear ho0); obtain ⟨Ao22, co22, eo22⟩ := Kd.R_slice HO180.out; subst eo22) | ((with_reducible refine gate_builtin (b := .append) (xs := #[.tmp 33, .tmp 37]) rfl ?_); at_builtin; refine Kd.S_append (Kd.slice 59 k59) (w0 := w) w.heap.size rfl (.tmp 33) (.tmp 37) 41 31 (.slice none 0 0) 24 rfl Tryd.underlying41 info31 rfl (by decide) (by omega) v176 t175 t178 [.slice Ao22 t178.length co22] (fun _ => True) (fun k_ => some k_ = (.slice Ao22 t178.length co22 : Value).ownBlock) rfl rfl ?aP (fun k_ hk_ => ((Kd.R_mono (ok' := fun k_ => ((fun _ => True)) k_ ∧ some k_ ≠ (v176 : Value).ownBlock) (Kd.R_apart' (HO180.out) (Kd.S_typed HO177.out) (by decide)) (fun k_ hk => ⟨trivial, hk.2⟩))).1 k_ hk_.symm) ?aF ?aO ?aB ?aS ?aL ?_; (case aP => exact Kd.M_row (Kd.R_mono (Kd.R_tight rfl (Kd.R_mono (ok' := fun k_ => ((fun _ => True)) k_ ∧ some k_ ≠ (v176 : Value).ownBlock) (Kd.R_apart' (HO180.out) (Kd.S_typed HO177.out) (by decide)) (fun k_ hk => ⟨trivial, hk.2⟩))) (fun _ h_ => h_))); (case aB => exact (by repeat (first | (with_reducible first | exact HB.out | apply below_alloc | apply pw_below_drewN | apply below_drew1) | exact HB.out))); (case aF => exact (fun _ _ => trivial)); (case aO => exact (by (with_reducible repeat (first | apply Kd.S_alloc | apply Kd.S_drewN | apply Kd.S_drew)); exact Kd.S_mono HO177.out (fun k_ hk => ⟨trivial, fun e_ => hk.2 e_⟩))); (case aS => exact (below_size (by repeat (first | (with_reducible first | exact HB.out | apply below_alloc | apply pw_below_drewN | apply below_drew1) | exact HB.out)))); (case aL => have := LMc17.out; omega); intro v182 w21 ho hb hg hat; rw [← Ny181.out] at ho; have n0_ := Aside0.mk (hb); have n1_ := Aside0.mk (ho); clear HB; clear HO177; clear HO180; have HB := n0_; have HO183 := n1_; clear n0_ n1_; clear ho hb hg hat))); (go_ret); (exact ⟨_, by first | rfl | (simp [errW_none, errW_some] <;> rfl) | (simp [*, errW_none, errW_some] <;> rfl), by (with_reducible repeat (first | apply Kd.S_alloc | apply Kd.S_drewN | apply Kd.S_drew)); exact HO183.out, by repeat (first | (with_reducible first | exact HB.out | apply below_alloc | apply pw_below_drewN | apply below_drew1) | exact HB.out)⟩))); (focus ((rw [if_neg c17] at H); (exact absurd H (by simp))))
end Go.Proofs.YtopacnaiedlaaaaDoor.F
end
